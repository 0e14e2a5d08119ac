/-
  DERIVED. The law ScriptParses: true at every text.
-/
import Derived.Test.YtkiikpojeogicaaDoorRk
import Derived.Test.YtkiikpojeogicaaDoorWp
import Derived.Test.YtkiikpojeogicaaDoorWr
import Derived.Test.YtkiikpojeogicaaDoorR7
import Derived.StillTailTactics
namespace Go.Proofs.YtkiikpojeogicaaDoor
open Go.RowKit Go.Sort Go.Proofs.YtkiikpojeogicaaDoorW.PrintWords Go.Proofs.YtkiikpojeogicaaDoorW.PrintMore Go.Proofs.YtkiikpojeogicaaDoor.PScriptParses
open Scr

namespace Scr
theorem takeN_ok {α : Type} {m : Nat} {r rest : List (List UInt8)} {f : Nat → List (List UInt8) → Out α} {a : α} (h : takeN m r f = .ok a rest) : ∃ n r', n ≤ m ∧ f n r' = .ok a rest := by
  unfold takeN at h
  cases hn : num m r with
  | none => rw [hn] at h; cases h
  | some q => rw [hn] at h; exact ⟨q.1, q.2, num_le hn, h⟩
theorem takeT_ok {α : Type} {r rest : List (List UInt8)} {f : List Int → List (List UInt8) → Out α} {a : α} (h : takeT r f = .ok a rest) : ∃ n r', f n r' = .ok a rest := by
  unfold takeT at h
  cases hn : txt r with
  | none => rw [hn] at h; cases h
  | some q => rw [hn] at h; exact ⟨q.1, q.2, h⟩
def VerOk (x : StartD) : Prop := 0 ≤ x.version ∧ x.version ≤ 2147483647
theorem startOf_ver {ws rest : List (List UInt8)} {x : StartD} (h : startOf ws = .ok x rest) : VerOk x := by
  cases ws with
  | nil => cases h
  | cons k r =>
    rw [startOf] at h
    by_cases hk : k = wWorld
    · rw [if_pos hk] at h
      obtain ⟨a, r1, _, h⟩ := takeN_ok h
      obtain ⟨b, r2, _, h⟩ := takeN_ok h
      obtain ⟨c, r3, _, h⟩ := takeN_ok h
      obtain ⟨v, r4, hv, h⟩ := takeN_ok h
      obtain ⟨s, r5, h⟩ := takeT_ok h
      obtain ⟨i, r6, h⟩ := takeT_ok h
      cases h
      exact ⟨by simp, by simp only; omega⟩
    · rw [if_neg hk] at h; cases h
theorem beginOf_ver {s : List UInt8} {x : StartD} (h : beginOf s = .ok x) : VerOk x := by
  unfold beginOf at h
  split at h
  · cases h
  · rename_i h'; cases h; exact startOf_ver h'
  · cases h
theorem oneOf_ver {r r' : RdD} {s : List UInt8} (hr : VerOk r.x) (h : oneOf r s = .ok r') : VerOk r'.x := by
  unfold oneOf lineOf sayOf at h
  repeat' split at h
  all_goals first | (cases h; done) | (cases h; exact hr) | (rename_i h'; cases h; exact beginOf_ver h')
theorem runLines_ver : ∀ (ls : List (List UInt8)) (r r' : RdD) (n : Nat), VerOk r.x → runLines r n ls = .ok r' → VerOk r'.x
  | [], r, r', n, hr, h => by cases h; exact hr
  | l :: ls, r, r', n, hr, h => by
    unfold runLines at h
    split at h
    · cases h
    · rename_i q hq; exact runLines_ver ls q r' (n + 1) (oneOf_ver hr hq) h
theorem parseOf_ver {text : List UInt8} {r : RdD} (h : parseOf text = .ok r) : VerOk r.x := by
  unfold parseOf at h
  split at h
  · cases h
  · split at h
    · cases h
    · rename_i hr
      split at h
      · cases h; exact runLines_ver _ rdZ _ 0 ⟨by decide, by decide⟩ hr
      · cases h
end Scr
theorem rows_get : ∀ (acts : List ActD) (vs : List Value) (i j : Nat) (a : ActD) (v : Value), acts[i]? = some a → vs[i]? = some v → j < 6 → (rows acts vs)[i * 6 + j]? = (actCells a v)[j]?
  | [], _, i, j, a, v, h, _, _ => by simp at h
  | _ :: _, [], i, j, a, v, _, h, _ => by simp at h
  | b :: acts, u :: vs, 0, j, a, v, h1, h2, hj => by
    simp only [List.getElem?_cons_zero, Option.some.injEq] at h1 h2
    subst h1; subst h2
    rw [rows, Nat.zero_mul, Nat.zero_add, List.getElem?_append_left (by simpa using hj)]
  | b :: acts, u :: vs, i + 1, j, a, v, h1, h2, hj => by
    simp only [List.getElem?_cons_succ] at h1 h2
    rw [rows, List.getElem?_append_right (by simp; omega), ← rows_get acts vs i j a v h1 h2 hj]
    congr 1
    simp
    omega
theorem own_len {W : World} {base : Nat} {A : Option Addr} {n c k : Nat} {e s : Nat} {xs : List Value} (h : W.ownsRow base e s (.slice A n c) k xs) : n = k := by
  rcases h.2 with ⟨hv, h0⟩ | ⟨g, cap, cur, hv, _⟩
  · injection hv with _ h1 _; omega
  · injection hv with _ h1 _
theorem own_max {W : World} {base : Nat} {A : Option Addr} {n c k : Nat} {e s : Nat} {xs : List Value} (h : W.ownsRow base e s (.slice A n c) k xs) : k ≤ 9223372036854775807 := by
  rcases h.2 with ⟨_, h0⟩ | ⟨g, cap, cur, _, _, _, h1, h2, _⟩
  · omega
  · exact Nat.le_trans h1 h2
/-- An act in memory. -/
theorem acts_at {base : Nat} {W : World} {A : Option Addr} {n c : Nat} {acts : List ActD} {vs : List Value} (h : ActsR base W (.slice A n c) acts vs) (i : Nat) (hi : i < acts.length) : ∃ g B m, A = some ⟨g, 0, none⟩ ∧ g < W.heap.size ∧
    (∀ j u, (actCells acts[i] (.slice B acts[i].data.length m))[j]? = some u → W.cell? ⟨g, i * 6 + j, none⟩ = some u) ∧ Dat base W (.slice A n c) (.slice B acts[i].data.length m) acts[i].data := by
  have hv : i < vs.length := by rw [h.len]; exact hi
  have ha : acts[i]? = some acts[i] := List.getElem?_eq_getElem hi
  have hvi : vs[i]? = some vs[i] := List.getElem?_eq_getElem hv
  have hd := h.dat i _ _ ha hvi
  obtain ⟨B, m, hB⟩ := Kd.V_slice hd
  rcases h.own.2 with ⟨_, h0⟩ | ⟨g, cap, cur, he, _⟩
  · omega
  · injection he with hA _ _
    subst hA
    have hc : ∀ j u, (actCells acts[i] (.slice B acts[i].data.length m))[j]? = some u → W.cell? ⟨g, i * 6 + j, none⟩ = some u := fun j u hu => by
      have hj : j < 6 := by have := (List.getElem?_eq_some_iff.1 hu).1; simpa using this
      have hr := rows_get acts vs i j _ _ ha hvi hj
      rw [hB, hu] at hr
      have := h.own.cells (g := g) rfl (i * 6 + j) u hr
      rw [Addr.add_lit, Nat.zero_add] at this
      exact this
    rw [hB] at hd
    exact ⟨g, B, m, rfl, cell_lt (hc 0 _ rfl), hc, hd⟩
theorem conv_str {W : World} {ok : Nat → Prop} {A : Option Addr} {n c : Nat} {xs : List Int} (h : Kd.V (Kd.int .u8) 5 W 0 ok (.slice A n c) xs) : (convert 25 9 (.slice A n c)).run Tryd.prog W = .ok (.string (strOfNums xs)) W := by
  obtain ⟨h1, _, h3⟩ := Kd.V_reads' h
  subst h1
  exact Kd.C_string Tryd.underlying25 Tryd.underlying5 Tryd.underlying9 h3

theorem wrap_next {i : Nat} (h : i < 9223372036854775807) : wrap64 ((i : Int) + 1) = ((i + 1 : Nat) : Int) := by unfold wrap64; omega
theorem meas_next {i n : Nat} (h : i < n) : n - (intOf (.int .i64 ((i + 1 : Nat) : Int))).toNat < n - (intOf (.int .i64 (i : Int))).toNat := by simp [intOf]; omega

set_option maxRecDepth 100000 in
set_option maxHeartbeats 4000000 in
theorem law_great (text : ByteArray) (hs : ¬ text.size ≤ 5000) (w : World) :
    Calls Tryd.prog 3 #[.string text] w fun e w' => e = .returned (.bool true) ∧ Below w.heap.size w w' := by
  have hl : (5000 : Int) < text.size := by omega
  go_enter Tryd.func3, Tryd.ntmps3
  go_wp2_with (go_at_call 6; refine (awake_any _).mono ?_; rintro e w' ⟨rfl, hb⟩)
  go_ret
  exact ⟨rfl, hb⟩

set_option maxRecDepth 100000 in
set_option maxHeartbeats 4000000 in
theorem law_bad (text : ByteArray) (hs : text.size ≤ 5000) (w : World) (hG : Glb w) (hrb : 8 ≤ w.heap.size) (n : Nat) (k : Int) (hp : parseOf text.data.toList = .bad n k) :
    Calls Tryd.prog 3 #[.string text] w fun e w' => e = .returned (.bool true) ∧ Below w.heap.size w w' := by
  have HS := Lib.hid hs
  have hl : ¬ (5000 : Int) < text.size := by omega
  clear hs
  go_enter Tryd.func3, Tryd.ntmps3
  go_wp2_with fail
  refine (sparse_any text w hG hrb HS.out).mono ?_
  rintro e W ⟨hB, hm⟩
  rw [hp] at hm
  obtain ⟨rfl, hk⟩ := hm
  go_wp2_with fail
  refine (rparse_any text HS.out _).mono ?_
  rintro e W2 ⟨hB2, hm⟩
  rw [hp] at hm
  obtain ⟨x, s, i, a, b, ⟨B0, m0, k0, rfl⟩, ⟨B1, m1, k1, rfl⟩, ⟨B2, m2, k2, rfl⟩, rfl⟩ := hm
  have hz := (hB2.block _ (show W.heap.size < _ by simp)).trans (heap_new W (.cells #[.int .i64 0, .int .i64 0, .int .i64 0] 24))
  have hzA := (Below.heap_alloc W2 (.cells (scells x (.slice B0 m0 k0) (.slice B1 m1 k1) (.slice B2 m2 k2) b n k) 32) _ (lt_of_block hz)).trans hz
  obtain ⟨⟨d0, d1, d2⟩, _⟩ := cells3 hzA
  have hk' : (k != 0) = true := by simpa using hk
  have hBB : Below w.heap.size w (W2.alloc (.cells (scells x (.slice B0 m0 k0) (.slice B1 m1 k1) (.slice B2 m2 k2) b n k) 32)) :=
    (((hB.alloc hB.size _).trans (hB2.mono (by have := hB.size; simp; omega))).alloc (by have := hB.size; have := hB2.size; simp at this; omega) _)
  go_wp2_with fail
  refine (awake_any _).mono ?_
  rintro e w' ⟨rfl, hb⟩
  go_wp2
  go_ret
  exact ⟨rfl, hBB.trans (hb.mono (by have := hBB.size; exact this))⟩

set_option maxRecDepth 100000 in
set_option maxHeartbeats 4000000 in
theorem law_ok (text : ByteArray) (hs : text.size ≤ 5000) (w : World) (hG : Glb w) (hrb : 8 ≤ w.heap.size) (r : RdD) (hp : parseOf text.data.toList = .ok r) :
    Calls Tryd.prog 3 #[.string text] w fun e w' => e = .returned (.bool true) ∧ Below w.heap.size w w' := by
  have HS := Lib.hid hs
  have hl : ¬ (5000 : Int) < text.size := by omega
  clear hs
  go_enter Tryd.func3, Tryd.ntmps3
  go_wp2_with fail
  refine (sparse_any text w hG hrb HS.out).mono ?_
  rintro e W ⟨hB, hm⟩
  rw [hp] at hm
  obtain ⟨base, rb, sv, iv, av, vs, rfl, hR, hrb2⟩ := hm
  obtain ⟨A0, n0, c0, rfl⟩ := hR.seed.isSlice
  obtain ⟨A1, n1, c1, rfl⟩ := hR.image.isSlice
  obtain ⟨A2, n2, c2, rfl⟩ := hR.acts.isSlice
  go_wp2_with fail
  refine (rparse_any text HS.out _).mono ?_
  rintro e W2 ⟨hB2, hm⟩
  rw [hp] at hm
  obtain ⟨base2, sv2, iv2, av2, vs2, hbase2, rfl, hR2⟩ := hm
  obtain ⟨B0, m0, k0, rfl⟩ := hR2.seed.isSlice
  obtain ⟨B1, m1, k1, rfl⟩ := hR2.image.isSlice
  obtain ⟨B2, m2, k2, rfl⟩ := hR2.acts.isSlice
  have hz := (hB2.block _ (show W.heap.size < _ by simp)).trans (heap_new W (.cells #[.int .i64 r.x.sector, .int .i64 r.x.block, .int .i64 r.x.slot] 24))
  have hzA := (Below.heap_alloc W2 (.cells (scells r.x (.slice B0 m0 k0) (.slice B1 m1 k1) (.slice B2 m2 k2) true 0 0) 32) _ (lt_of_block hz)).trans hz
  obtain ⟨⟨d0, d1, d2⟩, _⟩ := cells3 hzA
  have s1 := conv_str (Kd.V_alloc (Kd.V_below (Kd.V_alloc hR.seed (.cells #[.int .i64 r.x.sector, .int .i64 r.x.block, .int .i64 r.x.slot] 24)) hB2) (.cells (scells r.x (.slice B0 m0 k0) (.slice B1 m1 k1) (.slice B2 m2 k2) true 0 0) 32))
  have s2 := conv_str (Kd.V_alloc (Kd.V_below (Kd.V_alloc hR.image (.cells #[.int .i64 r.x.sector, .int .i64 r.x.block, .int .i64 r.x.slot] 24)) hB2) (.cells (scells r.x (.slice B0 m0 k0) (.slice B1 m1 k1) (.slice B2 m2 k2) true 0 0) 32))
  have s3 := conv_str (Kd.V_alloc hR2.seed (.cells (scells r.x (.slice B0 m0 k0) (.slice B1 m1 k1) (.slice B2 m2 k2) true 0 0) 32))
  have s4 := conv_str (Kd.V_alloc hR2.image (.cells (scells r.x (.slice B0 m0 k0) (.slice B1 m1 k1) (.slice B2 m2 k2) true 0 0) 32))
  have hver : IntKind.u64.wrap r.x.version = r.x.version := by
    obtain ⟨v1, v2⟩ := parseOf_ver hp
    exact IntWalk.u64_in _ (by omega)
  have l1 : n2 = r.acts.length := own_len hR.acts.own
  have l2 : m2 = r.acts.length := own_len hR2.acts.own
  have hmx := own_max hR.acts.own
  subst l1
  subst l2
  go_wp2_with fail
  have hS := heap_new W2 (.cells (scells r.x (.slice B0 m0 k0) (.slice B1 m1 k1) (.slice B2 r.acts.length k2) true 0 0) 32)
  have hA1 : ActsR base (W2.alloc (.cells (scells r.x (.slice B0 m0 k0) (.slice B1 m1 k1) (.slice B2 r.acts.length k2) true 0 0) 32)) (.slice A2 r.acts.length c2) r.acts vs :=
    hR.acts.step (fun k _ hk => by rw [Below.heap_alloc _ _ _ (by have := hB2.size; simp at this; omega), hB2.block k (by simp; omega), Below.heap_alloc _ _ _ hk])
  have hA2 : ActsR base2 (W2.alloc (.cells (scells r.x (.slice B0 m0 k0) (.slice B1 m1 k1) (.slice B2 r.acts.length k2) true 0 0) 32)) (.slice B2 r.acts.length k2) r.acts vs2 :=
    hR2.acts.step (fun k _ hk => Below.heap_alloc _ _ _ hk)
  have hBB : Below w.heap.size w (W2.alloc (.cells (scells r.x (.slice B0 m0 k0) (.slice B1 m1 k1) (.slice B2 r.acts.length k2) true 0 0) 32)) :=
    (((hB.alloc hB.size _).trans (hB2.mono (by have := hB.size; simp; omega))).alloc (by have := hB.size; have := hB2.size; simp at this; omega) _)
  generalize W2.alloc (.cells (scells r.x (.slice B0 m0 k0) (.slice B1 m1 k1) (.slice B2 r.acts.length k2) true 0 0) 32) = W3 at hS hA1 hA2 hBB ⊢
  go_loopw [11] (fun u wr => ∃ i : Nat, i ≤ r.acts.length ∧ u = .int .i64 i ∧ Below W3.heap.size W3 wr) (fun u _ => r.acts.length - (intOf u).toNat)
  case atStart => exact ⟨0, Nat.zero_le _, rfl, Below.refl _ _⟩
  case round =>
    obtain ⟨i, hi, rfl, hBr⟩ := hrel
    by_cases hlt : i < r.acts.length
    · have h1 := hA1.step (W1 := wr) (fun k _ hk => hBr.block k hk)
      have h2 := hA2.step (W1 := wr) (fun k _ hk => hBr.block k hk)
      have hSr := (hBr.block _ (lt_of_block hS)).trans hS
      obtain ⟨g1, X1, y1, rfl, lg1, hc1, hd1⟩ := acts_at h1 i hlt
      obtain ⟨g2, X2, y2, rfl, lg2, hc2, hd2⟩ := acts_at h2 i hlt
      obtain ⟨⟨_, _, _, _, _, _, q6, _, _, _⟩, _⟩ := cells10 hSr
      have x0 := hc1 0 _ rfl
      have x1 := hc1 1 _ rfl
      have x2 := hc1 2 _ rfl
      have x3 := hc1 3 _ rfl
      have x4 := hc1 4 _ rfl
      have x5 := hc1 5 _ rfl
      have z0 := hc2 0 _ rfl
      have z1 := hc2 1 _ rfl
      have z2 := hc2 2 _ rfl
      have z3 := hc2 3 _ rfl
      have z4 := hc2 4 _ rfl
      have z5 := hc2 5 _ rfl
      rw [Nat.add_zero] at x0 z0
      clear hc1 hc2
      go_wp2
      go_still_tail 9, (by kernel_rfl)
      change wpList _ _ _ _ _ wr.drew
      have hBd : Below W3.heap.size W3 wr.drew := Below.drew hBr
      obtain ⟨_, hn1, hk1⟩ := Kd.V_reads' hd1
      obtain ⟨_, hn2, hk2⟩ := Kd.V_reads' hd2
      have hS1 : Kd.C (Kd.int .u8) wr.drew X1 r.acts[i].data.length r.acts[i].data := hk1
      have hS2 : Kd.C (Kd.int .u8) wr.drew X2 r.acts[i].data.length r.acts[i].data := hk2
      generalize wr.drew = wd at hBd hS1 hS2 ⊢
      clear x0 x1 x2 x3 x4 x5 z0 z1 z2 z3 z4 z5
      go_wp2_with fail
      refine (drogherref30_Same.calls _ _ _ _ _ X1 y1 r.acts[i].data _ _ _ _ _ X2 y2 r.acts[i].data true wd hS1 hn1 hS2 hn2 (by simp [drogherref30_Same.f])).mono ?_
      rintro e W4 ⟨rfl, hB4⟩
      have hw1 : wrap64 ((i : Int) + 1) = ((i + 1 : Nat) : Int) := wrap_next (by omega)
      have hBe : Below W3.heap.size W3 W4 := hBd.trans (hB4.mono hBd.size)
      go_wp2
      go_roundw
      case rel => exact ⟨i + 1, hlt, congrArg (Value.int .i64) hw1, hBe⟩
      case measure => rw [hw1]; exact meas_next hlt
    · obtain rfl : i = r.acts.length := by omega
      go_wp2_with fail
      refine (awake_any _).mono ?_
      rintro e w' ⟨rfl, hb⟩
      go_wp2
      go_ret
      exact ⟨rfl, (hBB.trans (hBr.mono hBB.size)).trans (hb.mono (by have := hBB.size; have := hBr.size; omega))⟩

/-- The law: true at every text. -/
theorem law_any (text : ByteArray) (w : World) (hG : Glb w) : Calls Tryd.prog 3 #[.string text] w fun e w' => e = .returned (.bool true) ∧ Below w.heap.size w w' := by
  by_cases hs : text.size ≤ 5000
  · cases hp : parseOf text.data.toList with
    | ok r => exact law_ok text hs w hG hG.size r hp
    | bad n k => exact law_bad text hs w hG hG.size n k hp
  · exact law_great text hs w
end Go.Proofs.YtkiikpojeogicaaDoor
