/-
  DERIVED. The reference's one: a line, its line feed gone.
-/
import Derived.Test.YtccnmbfigpjkaaaGreatDoorRi
namespace Go.Proofs.YtccnmbfigpjkaaaGreatDoor
open Go.RowKit Go.Sort Go.Proofs.YtccnmbfigpjkaaaGreatDoorW.PrintWords Go.Proofs.YtccnmbfigpjkaaaGreatDoorW.PrintMore Go.Proofs.YtccnmbfigpjkaaaGreatDoor.PScriptRefuses
open Scr

/-- The reference's state's data. -/
structure Rs (base : Nat) (W : World) (r : RdD) (sv iv av : Value) (vs : List Value) : Prop where
  size : base ≤ W.heap.size
  seed : Dat base W av sv r.x.seed
  image : Dat base W av iv r.x.image
  acts : ActsR base W av r.acts vs
theorem Rs.step {base : Nat} {W W1 : World} {r : RdD} {sv iv av : Value} {vs : List Value} (h : Rs base W r sv iv av vs) (hs : W.heap.size ≤ W1.heap.size) (hb : ∀ k, base ≤ k → k < W.heap.size → W1.heap[k]? = W.heap[k]?) : Rs base W1 r sv iv av vs :=
  ⟨Nat.le_trans h.size hs, h.seed.step (fun k h1 h2 _ => hb k h1 h2), h.image.step (fun k h1 h2 _ => hb k h1 h2), h.acts.step hb⟩
theorem Rs.below {base : Nat} {W W1 : World} {r : RdD} {sv iv av : Value} {vs : List Value} (h : Rs base W r sv iv av vs) (hb : Below W.heap.size W W1) : Rs base W1 r sv iv av vs := h.step hb.size (fun k _ hk => hb.block k hk)

/-- What the reference's one hands back. -/
def ROneP (base : Nat) (w : World) (o : Step) (line : Int) (E : Ending) (W : World) : Prop :=
  Below base w W ∧ match o with
    | .ok r => ∃ sv iv av vs, E = .returned (.agg (scells r.x sv iv av r.begun (line + 1) 0)) ∧ Rs base W r sv iv av vs
    | .bad n => ∃ x s i a b, IsSlice s ∧ IsSlice i ∧ IsSlice a ∧ E = .returned (.agg (scells x s i a b (line + 1) n))

theorem Dat.isSlice {base : Nat} {W : World} {av v : Value} {xs : List Int} (h : Dat base W av v xs) : IsSlice v := by
  obtain ⟨A, c, e⟩ := Kd.V_slice h
  exact ⟨_, _, _, e⟩
theorem ActsR.isSlice {base : Nat} {W : World} {av : Value} {acts : List ActD} {vs : List Value} (h : ActsR base W av acts vs) : IsSlice av := by
  rcases h.own.2 with ⟨hv, _⟩ | ⟨g, cap, cur, hv, _⟩
  · exact ⟨_, _, _, hv⟩
  · exact ⟨_, _, _, hv⟩
theorem rone_res {W : World} {tmps : Array Value} {q : Nat} {x0 x1 x2 x3 x4 x5 x6 x7 x8 x9 : Value} (h4 : tmps[4]? = some (.pointer (some ⟨q, 0, none⟩))) (hz : W.heap[q]? = some (.cells #[x0, x1, x2, x3, x4, x5, x6, x7, x8, x9] 28 (0, 0))) :
    (results Tryz.f8 tmps).run Tryz.prog W = .ok (.agg #[x0, x1, x2, x3, x4, x5, x6, x7, x8, x9]) W := by
  obtain ⟨⟨c0, c1, c2, c3, c4, c5, c6, c7, c8, c9⟩, _⟩ := cells10 hz
  simp [results, Tryz.results8, go_sem, h4, c0, c1, c2, c3, c4, c5, c6, c7, c8, c9]
theorem setCell_size (U : World) (p : Addr) (v : Value) : (U.setCell p v).heap.size = U.heap.size := by simp [World.setCell]
theorem put10_size (U : World) (q : Nat) (x0 x1 x2 x3 x4 x5 x6 x7 x8 x9 : Value) : (put10 U q x0 x1 x2 x3 x4 x5 x6 x7 x8 x9).heap.size = U.heap.size := by
  rw [setCell_size, setCell_size, setCell_size, setCell_size, setCell_size, setCell_size, setCell_size, setCell_size, setCell_size, setCell_size]
theorem rone_done {base line : Nat} {w U : World} {tmps : Array Value} {q : Nat} {o : Step} {x0 x1 x2 x3 x4 x5 x6 x7 x8 x9 : Value} (h4 : tmps[4]? = some (.pointer (some ⟨q, 0, none⟩))) (hz : U.heap[q]? = some zS) (hq0 : base ≤ q) (hB : Below base w U)
    (hR : ∀ W : World, W.heap.size = U.heap.size → (∀ k, k ≠ q → W.heap[k]? = U.heap[k]?) → Below base w W → ROneP base w o line (.returned (.agg #[x0, x1, x2, x3, x4, x5, x6, x7, x8, x9])) W) :
    bodyPost Tryz.prog Tryz.f8 (ROneP base w o line) .ret { tmps := tmps, defers := [] } (put10 U q x0 x1 x2 x3 x4 x5 x6 x7 x8 x9) := by
  have hq := put10_same x0 x1 x2 x3 x4 x5 x6 x7 x8 x9 hz
  have hB2 := put10_below x0 x1 x2 x3 x4 x5 x6 x7 x8 x9 hB hq0
  have ho := hR (put10 U q x0 x1 x2 x3 x4 x5 x6 x7 x8 x9) (put10_size U q x0 x1 x2 x3 x4 x5 x6 x7 x8 x9) (fun k hk => put10_other x0 x1 x2 x3 x4 x5 x6 x7 x8 x9 hk) hB2
  generalize put10 U q x0 x1 x2 x3 x4 x5 x6 x7 x8 x9 = Uf at hq ho ⊢
  exact bodyPost_ret (rone_res h4 hq) rfl ho
theorem alloc2 (w : World) (cs ds : Array Value) : ((w.alloc (.cells cs 28)).alloc (.cells ds 28)).heap[w.heap.size + 1]? = some (.cells ds 28 (0, 0)) ∧ ((w.alloc (.cells cs 28)).alloc (.cells ds 28)).heap[w.heap.size]? = some (.cells cs 28 (0, 0)) ∧
    Below w.heap.size w ((w.alloc (.cells cs 28)).alloc (.cells ds 28)) ∧ ((w.alloc (.cells cs 28)).alloc (.cells ds 28)).heap.size = w.heap.size + 2 := by
  refine ⟨by have := heap_new (w.alloc (.cells cs 28)) (.cells ds 28); rwa [World.size_alloc] at this, ?_, ((Below.refl _ w).alloc (Nat.le_refl _) _).alloc (by simp) _, by simp⟩
  rw [Below.heap_alloc _ _ _ (by simp)]; exact heap_new w _

set_option maxRecDepth 100000 in
set_option maxHeartbeats 2000000 in
theorem rone_nil (base : Nat) (t : ByteArray) (w : World) (r : RdD) (A0 A1 A2 : Option Addr) (n0 n1 n2 c0 c1 c2 : Nat) (line : Nat) (hl : line ≤ 5000) (vs : List Value) (hR : Rs base w r (.slice A0 n0 c0) (.slice A1 n1 c1) (.slice A2 n2 c2) vs) (ht : t.data.toList = []) :
    Calls Tryz.prog 8 #[.agg (scells r.x (.slice A0 n0 c0) (.slice A1 n1 c1) (.slice A2 n2 c2) r.begun line 0), .string t] w (ROneP base w (.ok r) line) := by
  have e0 : t.toList = [] := by rw [ByteArray.toList_eq]; exact ht
  have hw : wrap64 ((line : Int) + 1) = (line : Int) + 1 := by unfold wrap64; omega
  go_enter Tryz.func8, Tryz.ntmps8
  go_wp2
  obtain ⟨h1, _, hB, _⟩ := alloc2 w (scells r.x (.slice A0 n0 c0) (.slice A1 n1 c1) (.slice A2 n2 c2) r.begun (line + 1) 0) (scells r.x (.slice A0 n0 c0) (.slice A1 n1 c1) (.slice A2 n2 c2) r.begun (line + 1) 0)
  exact bodyPost_ret (rone_res rfl h1) rfl ⟨hB.mono hR.size, _, _, _, vs, rfl, hR.below hB⟩

set_option maxRecDepth 100000 in
set_option maxHeartbeats 2000000 in
theorem rone_hash (base : Nat) (t : ByteArray) (w : World) (r : RdD) (A0 A1 A2 : Option Addr) (n0 n1 n2 c0 c1 c2 : Nat) (line : Nat) (hl : line ≤ 5000) (vs : List Value) (hR : Rs base w r (.slice A0 n0 c0) (.slice A1 n1 c1) (.slice A2 n2 c2) vs) (u : List UInt8) (ht : t.data.toList = 35 :: u) :
    Calls Tryz.prog 8 #[.agg (scells r.x (.slice A0 n0 c0) (.slice A1 n1 c1) (.slice A2 n2 c2) r.begun line 0), .string t] w (ROneP base w (.ok r) line) := by
  obtain ⟨k1, k2, k3, k4⟩ := head_facts ht
  have hw : wrap64 ((line : Int) + 1) = (line : Int) + 1 := by unfold wrap64; omega
  go_enter Tryz.func8, Tryz.ntmps8
  go_wp2
  obtain ⟨h1, _, hB, _⟩ := alloc2 w (scells r.x (.slice A0 n0 c0) (.slice A1 n1 c1) (.slice A2 n2 c2) r.begun (line + 1) 0) (scells r.x (.slice A0 n0 c0) (.slice A1 n1 c1) (.slice A2 n2 c2) r.begun (line + 1) 0)
  exact bodyPost_ret (rone_res rfl h1) rfl ⟨hB.mono hR.size, _, _, _, vs, rfl, hR.below hB⟩

set_option maxRecDepth 100000 in
set_option maxHeartbeats 2000000 in
theorem rone_begin (base : Nat) (t : ByteArray) (hts : t.size ≤ 5000) (w : World) (r : RdD) (A0 A1 A2 : Option Addr) (n0 n1 n2 c0 c1 c2 : Nat) (line : Nat) (hl : line ≤ 5000) (vs : List Value) (hR : Rs base w r (.slice A0 n0 c0) (.slice A1 n1 c1) (.slice A2 n2 c2) vs)
    (ch : UInt8) (u : List UInt8) (ht : t.data.toList = ch :: u) (h35 : ¬ ch = 35) (hb : r.begun = false) :
    Calls Tryz.prog 8 #[.agg (scells r.x (.slice A0 n0 c0) (.slice A1 n1 c1) (.slice A2 n2 c2) r.begun line 0), .string t] w (ROneP base w (sayOf r t.data.toList) line) := by
  obtain ⟨k1, k2, k3, k4⟩ := head_facts ht
  have n35 := ne35 h35
  have hw : wrap64 ((line : Int) + 1) = (line : Int) + 1 := by unfold wrap64; omega
  go_enter Tryz.func8, Tryz.ntmps8
  go_wp2_with fail
  obtain ⟨h1, h2, hB, hsz⟩ := alloc2 w (scells r.x (.slice A0 n0 c0) (.slice A1 n1 c1) (.slice A2 n2 c2) false (line + 1) 0) (scells ⟨0, 0, 0, [], [], 0⟩ (.slice none 0 0) (.slice none 0 0) (.slice none 0 0) false 0 0)
  refine (rbegin_any t hts _ r.x A0 A1 A2 n0 n1 n2 c0 c1 c2 _).mono ?_
  rintro e W ⟨hBW, hm⟩
  have hz := (hBW.block _ (by rw [hsz]; omega)).trans h1
  have hBw : Below w.heap.size w W := hB.trans (hBW.mono (by rw [hsz]; omega))
  have hsW := hBW.size
  rw [hsz] at hsW
  have hs := hR.size
  have hsay : sayOf r (ch :: u) = match beginOf (ch :: u) with
    | .ok x => .ok { r with x := x, begun := true }
    | .bad e => .bad e := by
    rw [sayOf, if_neg (by rw [hb]; decide)]
    cases beginOf (ch :: u) <;> rfl
  rw [ht] at hm
  cases hx : beginOf (ch :: u) with
  | ok y =>
    rw [hx] at hm
    obtain ⟨s', i', rfl, hs', hi'⟩ := hm
    obtain ⟨B0, d0, rfl⟩ := Kd.V_slice hs'
    obtain ⟨B1, d1, rfl⟩ := Kd.V_slice hi'
    obtain ⟨_, f40, f41, f42, f43, f44, f45, f46, f47, f48, f49⟩ := cells10 hz
    go_wp2
    rw [ht, hsay, hx]
    refine rone_done rfl hz (by omega) (hBw.mono hs) (fun Wf hz1 hz2 hz3 => ⟨hz3, _, _, _, vs, rfl, ?_⟩)
    have hold : ∀ k, k < w.heap.size → Wf.heap[k]? = w.heap[k]? := fun k hk => (hz2 k (by omega)).trans (hBw.block k hk)
    have hav : ∀ k, w.heap.size + 2 ≤ k → some k ≠ (Value.slice A2 n2 c2).ownBlock := fun k hk e => by have := own_lt hR.acts.own k e.symm; omega
    refine ⟨by omega, Kd.V_mono (Kd.V_step hs' (fun k hk _ => hz2 k (by rw [hsz] at hk; omega))) (fun k hk => ?_), Kd.V_mono (Kd.V_step hi' (fun k hk _ => hz2 k (by rw [hsz] at hk; omega))) (fun k hk => ?_), hR.acts.step (fun k _ hk => hold k hk)⟩
    · rw [hsz] at hk; exact ⟨by omega, hav k hk⟩
    · rw [hsz] at hk; exact ⟨by omega, hav k hk⟩
  | bad n =>
    rw [hx] at hm
    obtain ⟨x', s', i', ⟨B0, m0, d0, rfl⟩, ⟨B1, m1, d1, rfl⟩, rfl⟩ := hm
    obtain ⟨_, f40, f41, f42, f43, f44, f45, f46, f47, f48, f49⟩ := cells10 hz
    go_wp2
    rw [ht, hsay, hx]
    exact rone_done rfl hz (by omega) (hBw.mono hs) (fun Wf hz1 hz2 hz3 => ⟨hz3, x', _, _, _, _, ⟨_, _, _, rfl⟩, ⟨_, _, _, rfl⟩, ⟨_, _, _, rfl⟩, rfl⟩)

set_option maxRecDepth 100000 in
set_option maxHeartbeats 4000000 in
theorem rone_act (base : Nat) (t : ByteArray) (hts : t.size ≤ 5000) (w : World) (r : RdD) (A0 A1 A2 : Option Addr) (n0 n1 n2 c0 c1 c2 : Nat) (line : Nat) (hl : line ≤ 5000) (hla : r.acts.length ≤ 5000) (vs : List Value) (hR : Rs base w r (.slice A0 n0 c0) (.slice A1 n1 c1) (.slice A2 n2 c2) vs)
    (ch : UInt8) (u : List UInt8) (ht : t.data.toList = ch :: u) (h35 : ¬ ch = 35) (hb : r.begun = true) :
    Calls Tryz.prog 8 #[.agg (scells r.x (.slice A0 n0 c0) (.slice A1 n1 c1) (.slice A2 n2 c2) r.begun line 0), .string t] w (ROneP base w (sayOf r t.data.toList) line) := by
  obtain ⟨k1, k2, k3, k4⟩ := head_facts ht
  have n35 := ne35 h35
  have hw : wrap64 ((line : Int) + 1) = (line : Int) + 1 := by unfold wrap64; omega
  go_enter Tryz.func8, Tryz.ntmps8
  go_wp2_with fail
  obtain ⟨h1, h2, hB, hsz⟩ := alloc2 w (scells r.x (.slice A0 n0 c0) (.slice A1 n1 c1) (.slice A2 n2 c2) true (line + 1) 0) (scells ⟨0, 0, 0, [], [], 0⟩ (.slice none 0 0) (.slice none 0 0) (.slice none 0 0) false 0 0)
  refine (ract_any t hts _).mono ?_
  rintro e W ⟨v, rfl, hv, hBW⟩
  have hz := (hBW.block _ (by rw [hsz]; omega)).trans h1
  have hz2 := (hBW.block _ (by rw [hsz]; omega)).trans h2
  have hBw : Below w.heap.size w W := hB.trans (hBW.mono (by rw [hsz]; omega))
  have hsW := hBW.size
  rw [hsz] at hsW
  have hs := hR.size
  obtain ⟨q1, q2, q3⟩ := actR_read t.data.toList
  rw [ht] at q1 q2 q3
  obtain ⟨⟨a, n⟩, ha⟩ : ∃ p, actR (ch :: u) = p := ⟨_, rfl⟩
  rw [ht, ha] at hv
  rw [ha] at q1 q2 q3
  simp only at hv q1 q2 q3
  have hact : actR t.data.toList = (a, n) := by rw [ht]; exact ha
  have hsay : sayOf r t.data.toList = if n = 0 then .ok { r with acts := r.acts ++ [a] } else .bad n := by
    rw [sayOf, if_pos hb, ht, ← q1]
    by_cases h0 : n = 0
    · rw [if_pos h0, if_pos h0, ← q2 (by rw [← q1]; exact h0)]
    · rw [if_neg h0, if_neg h0]
  obtain ⟨B0, m0, rfl⟩ := Kd.V_slice hv
  rw [hact]
  simp only
  rw [ht] at hsay
  have hSay := Lib.hid hsay
  clear q1 q2 q3 hact ha hsay
  have hA := heap_new W (.cells #[.int .u8 a.kind, .int .u8 a.mode, .int .i64 a.p, .int .i64 a.n, .int .u64 a.version, .slice B0 a.data.length m0] 49)
  have hzA := (Below.heap_alloc W (.cells #[.int .u8 a.kind, .int .u8 a.mode, .int .i64 a.p, .int .i64 a.n, .int .u64 a.version, .slice B0 a.data.length m0] 49) _ (show w.heap.size + 1 < W.heap.size by omega)).trans hz
  have hzB := (Below.heap_alloc W (.cells #[.int .u8 a.kind, .int .u8 a.mode, .int .i64 a.p, .int .i64 a.n, .int .u64 a.version, .slice B0 a.data.length m0] 49) _ (show w.heap.size < W.heap.size by omega)).trans hz2
  have hBA : Below w.heap.size w (W.alloc (.cells #[.int .u8 a.kind, .int .u8 a.mode, .int .i64 a.p, .int .i64 a.n, .int .u64 a.version, .slice B0 a.data.length m0] 49)) := hBw.alloc (by omega) _
  by_cases he : n = 0
  · subst he
    obtain ⟨⟨d0, d1, d2, d3, d4, d5, d6, d7, d8, d9⟩, f20, f21, f22, f23, f24, f25, f26, f27, f28, f29⟩ := cells10 hzB
    obtain ⟨_, f40, f41, f42, f43, f44, f45, f46, f47, f48, f49⟩ := cells10 hzA
    obtain ⟨⟨x0, x1, x2, x3, x4, x5⟩, _⟩ := cells6 hA
    obtain ⟨i0, hi, hz0, hz1, hz2'⟩ := info_parts infoAct
    have hown := (hR.acts.step (W1 := W) (fun k _ hk => hBw.block k hk)).own
    obtain rfl : n2 = r.acts.length := by
      rcases hown.2 with ⟨hv', h0⟩ | ⟨g, cap, cur, hv', _⟩
      · injection hv' with _ h1 _; omega
      · injection hv' with _ h1 _
    have hS2 := heap_new (W.alloc (.cells #[.int .u8 a.kind, .int .u8 a.mode, .int .i64 a.p, .int .i64 a.n, .int .u64 a.version, .slice B0 a.data.length m0] 49)) (.cells #[.int .u8 a.kind, .int .u8 a.mode, .int .i64 a.p, .int .i64 a.n, .int .u64 a.version, .slice B0 a.data.length m0] 49)
    rw [World.size_alloc] at hS2
    obtain ⟨⟨y0, y1, y2, y3, y4, y5⟩, _⟩ := cells6 hS2
    go_wp2_with (at_builtin; refine wpList_append_own_at _ rfl _ _ 26 rfl base 49 i0 (.agg #[.int .u8 0, .int .u8 0, .int .i64 0, .int .i64 0, .int .u64 0, .slice none 0 0]) 6 56 Tryz.underlying26 hi hz0 hz1 hz2' rfl (by decide) _ _ _ rfl ((hown.alloc _).alloc _) ⟨W.heap.size + 1, 0, none⟩ 1 1 (actCells a (.slice B0 a.data.length m0)) rfl rfl ?c1 ?c2 ?c3 ?c4 ?c5 ?_)
    case c2 => exact ⟨rfl, rfl, rfl, rfl, rfl, rfl⟩
    case c3 => unfold maxLen; omega
    case c4 => omega
    case c5 => omega
    intro v' w2 hown' hgrow _ hat
    obtain ⟨g1, cap1, rfl⟩ := ownsRow_succ hown'
    have hol : ∀ e, (Value.slice A2 r.acts.length c2).ownBlock = some e → e < w.heap.size := fun e he => own_lt hR.acts.own e he
    have hkeep : ∀ k, w.heap.size ≤ k → k < W.heap.size → w2.heap[k]? = W.heap[k]? := fun k h1 h2 => by
      rw [hgrow.block k (by simp; omega) (fun e => by have := hol k e.symm; omega), Below.heap_alloc _ _ _ (by simp; omega), Below.heap_alloc _ _ _ h2]
    have u2 := (hkeep _ (Nat.le_refl _) (by omega)).trans hz2
    have u4 := (hkeep _ (by omega) (by omega)).trans hz
    clear d0 d1 d2 d3 d4 d5 d6 d7 d8 d9 f20 f21 f22 f23 f24 f25 f26 f27 f28 f29 f40 f41 f42 f43 f44 f45 f46 f47 f48 f49
    obtain ⟨⟨d0, d1, d2, d3, d4, d5, d6, d7, d8, d9⟩, f20, f21, f22, f23, f24, f25, f26, f27, f28, f29⟩ := cells10 u2
    obtain ⟨_, f40, f41, f42, f43, f44, f45, f46, f47, f48, f49⟩ := cells10 u4
    have HO := Lib.hid hown'
    have HG := Lib.hid hgrow
    have HT := Lib.hid hat
    clear hown' hgrow hat
    go_wp2
    try rw [ht]
    rw [hSay.out, if_pos trivial]
    have hWa : Below w.heap.size w ((W.alloc (.cells #[.int .u8 a.kind, .int .u8 a.mode, .int .i64 a.p, .int .i64 a.n, .int .u64 a.version, .slice B0 a.data.length m0] 49)).alloc (.cells #[.int .u8 a.kind, .int .u8 a.mode, .int .i64 a.p, .int .i64 a.n, .int .u64 a.version, .slice B0 a.data.length m0] 49)) := hBA.alloc (by simp; omega) _
    have hvA := Kd.V_alloc (Kd.V_alloc hv (.cells #[.int .u8 a.kind, .int .u8 a.mode, .int .i64 a.p, .int .i64 a.n, .int .u64 a.version, .slice B0 a.data.length m0] 49)) (.cells #[.int .u8 a.kind, .int .u8 a.mode, .int .i64 a.p, .int .i64 a.n, .int .u64 a.version, .slice B0 a.data.length m0] 49)
    have hWaS : ((W.alloc (.cells #[.int .u8 a.kind, .int .u8 a.mode, .int .i64 a.p, .int .i64 a.n, .int .u64 a.version, .slice B0 a.data.length m0] 49)).alloc (.cells #[.int .u8 a.kind, .int .u8 a.mode, .int .i64 a.p, .int .i64 a.n, .int .u64 a.version, .slice B0 a.data.length m0] 49)).heap.size = W.heap.size + 1 + 1 := by simp
    have hgrow := HG.out
    have hown' := HO.out
    have hat := HT.out.imp id (fun e => (⟨_, e, Nat.le_refl _⟩ : ∃ b, (Value.slice (some ⟨g1, 0, none⟩) (r.acts.length + 1) cap1).ownBlock = some b ∧ _ ≤ b))
    generalize (W.alloc (.cells #[.int .u8 a.kind, .int .u8 a.mode, .int .i64 a.p, .int .i64 a.n, .int .u64 a.version, .slice B0 a.data.length m0] 49)).alloc (.cells #[.int .u8 a.kind, .int .u8 a.mode, .int .i64 a.p, .int .i64 a.n, .int .u64 a.version, .slice B0 a.data.length m0] 49) = Wa at hWa hvA hgrow hown' hat hWaS
    rw [← hWaS] at hat
    have hB2 : Below base w w2 := (hWa.mono hs).grown hgrow (Nat.le_trans hs hWa.size) (fun k hk => own_base hR.acts.own k hk)
    have hRa := hR.step hWa.size (fun k _ hk => hWa.block k hk)
    have hat2 : (Value.slice (some ⟨g1, 0, none⟩) (r.acts.length + 1) cap1).ownBlock = (Value.slice A2 r.acts.length c2).ownBlock ∨ ∃ b, (Value.slice (some ⟨g1, 0, none⟩) (r.acts.length + 1) cap1).ownBlock = some b ∧ w.heap.size ≤ b := hat.imp id (fun ⟨b, h1, h2⟩ => ⟨b, h1, by omega⟩)
    have hfar : ∀ e, (Value.slice (some ⟨g1, 0, none⟩) (r.acts.length + 1) cap1).ownBlock = some e → e < w.heap.size ∨ Wa.heap.size ≤ e := fun e he => by
      rcases hat with h | ⟨b, h, hb'⟩
      · exact .inl (hol e (by rw [← h]; exact he))
      · rw [he] at h; injection h with h; exact .inr (by omega)
    have hd2 : Kd.V (Kd.int .u8) 5 w2 0 (fun k => w.heap.size + 2 ≤ k ∧ k < Wa.heap.size) (.slice B0 a.data.length m0) a.data :=
      Kd.V_grown (Kd.V_mono (Kd.V_bound hvA) (fun k hk => ⟨by have := hk.1; rw [hsz] at this; omega, hk.2⟩)) hgrow (fun k hk e => by have := hol k e.symm; omega)
    have hs2 := hB2.size
    refine rone_done rfl ((Below.heap_setCell _ _ _ _ (by show w.heap.size + 1 ≠ w.heap.size; omega)).trans u4) (by omega) (hB2.setCell (p := ⟨w.heap.size, 6, none⟩) hs _) (fun Wf hz1 hz3 hz4 => ⟨hz4, _, _, _, vs ++ [.slice B0 a.data.length m0], by rw [hb], ?_⟩)
    have hk3 : ∀ k, k < w.heap.size → Wf.heap[k]? = w2.heap[k]? := fun k hk => (hz3 k (by omega)).trans (Below.heap_setCell _ _ _ _ (by show k ≠ w.heap.size; omega))
    have hk4 : ∀ k, w.heap.size + 2 ≤ k → Wf.heap[k]? = w2.heap[k]? := fun k h1 => (hz3 k (by omega)).trans (Below.heap_setCell _ _ _ _ (by show k ≠ w.heap.size; omega))
    have hgs := hgrow.size
    have hWs := hWa.size
    rw [setCell_size] at hz1
    have hg' : w.grownBy Wf (Value.slice A2 r.acts.length c2).ownBlock := ⟨hz4.os, hz4.tape, hz4.output, by omega, fun k hk hne => (hk3 k hk).trans ((hgrow.block k (by omega) hne).trans (hWa.block k hk))⟩
    have hown3 := own_move (w1 := Wf) hown' (fun k e => by rcases hfar k e with h | h; exact hk3 k h; exact hk4 k (by omega))
    have hd3 : Dat base Wf (.slice (some ⟨g1, 0, none⟩) (r.acts.length + 1) cap1) (.slice B0 a.data.length m0) a.data :=
      Kd.V_mono (Kd.V_step hd2 (fun k hk _ => hk4 k hk.1)) (fun k hk => ⟨by omega, fun e => by rcases hfar k e.symm with h | h <;> omega⟩)
    exact ⟨by omega, hR.seed.turn hg' hat2, hR.image.turn hg' hat2, hR.acts.snoc hd3 hown3 hg' hat2⟩
  · have hne : (n != 0) = true := by simpa using he
    obtain ⟨⟨d0, d1, d2, d3, d4, d5, d6, d7, d8, d9⟩, f20, f21, f22, f23, f24, f25, f26, f27, f28, f29⟩ := cells10 hzB
    obtain ⟨_, f40, f41, f42, f43, f44, f45, f46, f47, f48, f49⟩ := cells10 hzA
    go_wp2
    try rw [ht]
    rw [hSay.out, if_neg he]
    exact rone_done rfl ((Below.heap_setCell _ _ _ _ (by show w.heap.size + 1 ≠ w.heap.size; omega)).trans hzA) (by omega) ((hBA.setCell (p := ⟨w.heap.size, 9, none⟩) (Nat.le_refl _) _).mono hs) (fun Wf hz1 hz2 hz3 => ⟨hz3, r.x, _, _, _, _, ⟨_, _, _, rfl⟩, ⟨_, _, _, rfl⟩, ⟨_, _, _, rfl⟩, rfl⟩)

/-- The reference's one, at any line of at most 5000 bytes. -/
theorem rone_any (base : Nat) (t : ByteArray) (hts : t.size ≤ 5000) (w : World) (r : RdD) (sv iv av : Value) (line : Nat) (hl : line ≤ 5000) (hla : r.acts.length ≤ 5000) (vs : List Value) (hR : Rs base w r sv iv av vs) :
    Calls Tryz.prog 8 #[.agg (scells r.x sv iv av r.begun line 0), .string t] w (ROneP base w (lineOf r t.data.toList) line) := by
  obtain ⟨A0, n0, c0, rfl⟩ := hR.seed.isSlice
  obtain ⟨A1, n1, c1, rfl⟩ := hR.image.isSlice
  obtain ⟨A2, n2, c2, rfl⟩ := hR.acts.isSlice
  unfold lineOf
  cases h0 : t.data.toList with
  | nil => rw [if_pos rfl]; exact rone_nil base t w r A0 A1 A2 n0 n1 n2 c0 c1 c2 line hl vs hR h0
  | cons ch u =>
    rw [if_neg (by simp)]
    by_cases h35 : ch = 35
    · subst h35; rw [List.head?_cons, if_pos rfl]; exact rone_hash base t w r A0 A1 A2 n0 n1 n2 c0 c1 c2 line hl vs hR u h0
    · rw [if_neg (by simpa using h35), ← h0]
      by_cases hb : r.begun = true
      · exact rone_act base t hts w r A0 A1 A2 n0 n1 n2 c0 c1 c2 line hl hla vs hR ch u h0 h35 hb
      · exact rone_begin base t hts w r A0 A1 A2 n0 n1 n2 c0 c1 c2 line hl vs hR ch u h0 h35 (by simpa using hb)
end Go.Proofs.YtccnmbfigpjkaaaGreatDoor
