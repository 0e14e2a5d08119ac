/-
  DERIVED. The reference's begin: the first line.
-/
import Derived.Test.YtccnmbfigpjkaaaGreatDoorRh
namespace Go.Proofs.YtccnmbfigpjkaaaGreatDoor
open Go.RowKit Go.Sort Go.Proofs.YtccnmbfigpjkaaaGreatDoorW.PrintWords Go.Proofs.YtccnmbfigpjkaaaGreatDoorW.PrintMore Go.Proofs.YtccnmbfigpjkaaaGreatDoor.PScriptRefuses
open Scr

namespace Scr
theorem takeN_cons {α : Type} (most : Nat) (a : List UInt8) (r : List (List UInt8)) (f : Nat → List (List UInt8) → Out α) : takeN most (a :: r) f = match number most a with
    | some n => f n r
    | none => .bad 3 := by
  simp only [takeN, num]
  cases number most a <;> rfl
theorem takeT_cons {α : Type} (a : List UInt8) (r : List (List UInt8)) (f : List Int → List (List UInt8) → Out α) : takeT (a :: r) f = match unhex a with
    | some n => f n r
    | none => .bad 3 := by
  simp only [takeT, txt]
  cases unhex a <;> rfl
def begunOf : Out StartD → Begun
  | .bad e => .bad e
  | .ok x [] => .ok x
  | .ok _ (_ :: _) => .bad 3
theorem beginOf_eq (s : List UInt8) : beginOf s = begunOf (startOf (wordsOf s)) := by
  unfold beginOf begunOf
  cases startOf (wordsOf s) with
  | bad e => rfl
  | ok x r => cases r <;> rfl
end Scr
def begLaw (p : List Int × List (List Int) × Bool) (B : Begun) : Prop :=
  (p.2.2 = false ∧ B = .bad 3) ∨ ∃ a b c v s i, p = ([a, b, c, v], [s, i], true) ∧ B = .ok ⟨a, b, c, s, i, v⟩
theorem begin_law (r : List (List UInt8)) (p : List Int × List (List Int) × Bool) (hp : fldR (if r.length + 1 = 6 + 1 then flds [110, 110, 110, 110, 116, 116] r else none) p) : begLaw p (begunOf (startOf (wWorld :: r))) := by
  rw [startOf, if_pos rfl]
  have no : (∀ (h : fldR none p), begLaw p (.bad 3)) := fun h => .inl ⟨h, rfl⟩
  rcases r with _ | ⟨a, r⟩
  · exact no hp
  rw [takeN_cons]
  cases h1 : number 2147483647 a with
  | none => exact no (by simpa [flds, mostOf, h1] using hp)
  | some a =>
  rcases r with _ | ⟨b, r⟩
  · exact no hp
  simp only
  rw [takeN_cons]
  cases h2 : number 2147483647 b with
  | none => exact no (by simpa [flds, mostOf, h1, h2] using hp)
  | some b =>
  rcases r with _ | ⟨c, r⟩
  · exact no hp
  simp only
  rw [takeN_cons]
  cases h3 : number 2147483647 c with
  | none => exact no (by simpa [flds, mostOf, h1, h2, h3] using hp)
  | some c =>
  rcases r with _ | ⟨d, r⟩
  · exact no hp
  simp only
  rw [takeN_cons]
  cases h4 : number 2147483647 d with
  | none => exact no (by simpa [flds, mostOf, h1, h2, h3, h4] using hp)
  | some d =>
  rcases r with _ | ⟨e, r⟩
  · exact no hp
  simp only
  rw [takeT_cons]
  cases h5 : unhex e with
  | none => exact no (by simpa [flds, mostOf, h1, h2, h3, h4, h5] using hp)
  | some e =>
  rcases r with _ | ⟨f, r⟩
  · exact no hp
  simp only
  rw [takeT_cons]
  cases h6 : unhex f with
  | none => exact no (by simpa [flds, mostOf, h1, h2, h3, h4, h5, h6] using hp)
  | some f =>
  cases r with
  | nil =>
    refine .inr ⟨a, b, c, d, e, f, ?_, rfl⟩
    simpa [flds, mostOf, h1, h2, h3, h4, h5, h6, fldR] using hp
  | cons g r => exact no (by simpa using hp)

/-- The reference's state, as a value. -/
abbrev scells (x : StartD) (sv iv av : Value) (begun : Bool) (line e : Int) : Array Value := #[.int .i64 x.sector, .int .i64 x.block, .int .i64 x.slot, sv, iv, .int .i64 x.version, av, .bool begun, .int .i64 line, .int .i64 e]
/-- What the reference's begin hands back. -/
def RBeginP (w : World) (b : Begun) (av : Value) (line : Int) (E : Ending) (W : World) : Prop :=
  Below w.heap.size w W ∧ match b with
    | .ok y => ∃ s i, E = .returned (.agg (scells y s i av true line 0)) ∧ Kd.V (Kd.int .u8) 5 W 0 (fun k => w.heap.size ≤ k) s y.seed ∧ Kd.V (Kd.int .u8) 5 W 0 (fun k => w.heap.size ≤ k) i y.image
    | .bad n => ∃ x' s i, IsSlice s ∧ IsSlice i ∧ E = .returned (.agg (scells x' s i av false line n))


abbrev zS : Obj := .cells #[.int .i64 0, .int .i64 0, .int .i64 0, .slice none 0 0, .slice none 0 0, .int .i64 0, .slice none 0 0, .bool false, .int .i64 0, .int .i64 0] 28
theorem two_s {w w1 : World} {cs : Array Value} (hB : Below ((w.alloc (.cells cs 28)).alloc zS).heap.size ((w.alloc (.cells cs 28)).alloc zS) w1) :
    w1.heap[w.heap.size]? = some (.cells cs 28 (0, 0)) ∧ w1.heap[w.heap.size + 1]? = some zS ∧ Below w.heap.size w w1 := by
  have hh : ∀ k, k < w.heap.size + 2 → w1.heap[k]? = ((w.alloc (.cells cs 28)).alloc zS).heap[k]? := fun k hk => hB.block k (by simp; omega)
  refine ⟨?_, ?_, (((Below.refl _ w).alloc (Nat.le_refl _) _).alloc (by simp) _).trans (hB.mono (by simp; omega))⟩
  · rw [hh _ (by omega), Below.heap_alloc _ _ _ (by simp)]; exact heap_new w _
  · rw [hh _ (by omega)]; have := heap_new (w.alloc (.cells cs 28)) zS; rwa [World.size_alloc] at this
abbrev put10 (U : World) (q : Nat) (x0 x1 x2 x3 x4 x5 x6 x7 x8 x9 : Value) : World := ((((put6 U q x0 x1 x2 x3 x4 x5).setCell ⟨q, 6, none⟩ x6).setCell ⟨q, 7, none⟩ x7).setCell ⟨q, 8, none⟩ x8).setCell ⟨q, 9, none⟩ x9
theorem put10_same {U : World} {q : Nat} {y0 y1 y2 y3 y4 y5 y6 y7 y8 y9 : Value} (x0 x1 x2 x3 x4 x5 x6 x7 x8 x9 : Value) {t : TypeId} (h : U.heap[q]? = some (.cells #[y0, y1, y2, y3, y4, y5, y6, y7, y8, y9] t (0, 0))) :
    (put10 U q x0 x1 x2 x3 x4 x5 x6 x7 x8 x9).heap[q]? = some (.cells #[x0, x1, x2, x3, x4, x5, x6, x7, x8, x9] t (0, 0)) := by
  rw [setCell_heap (setCell_heap (setCell_heap (setCell_heap (setCell_heap (setCell_heap (setCell_heap (setCell_heap (setCell_heap (setCell_heap h)))))))))]
  simp
theorem put10_other {U : World} {q : Nat} (x0 x1 x2 x3 x4 x5 x6 x7 x8 x9 : Value) {k : Nat} (h : k ≠ q) : (put10 U q x0 x1 x2 x3 x4 x5 x6 x7 x8 x9).heap[k]? = U.heap[k]? := by
  rw [Below.heap_setCell _ _ _ _ h, Below.heap_setCell _ _ _ _ h, Below.heap_setCell _ _ _ _ h, Below.heap_setCell _ _ _ _ h, put6_other _ _ _ _ _ _ h]
theorem put10_below {w U : World} {B q : Nat} (x0 x1 x2 x3 x4 x5 x6 x7 x8 x9 : Value) (h : Below B w U) (hq : B ≤ q) : Below B w (put10 U q x0 x1 x2 x3 x4 x5 x6 x7 x8 x9) :=
  (((((((((h.setCell hq _).setCell hq _).setCell hq _).setCell hq _).setCell hq _).setCell hq _).setCell hq _).setCell hq _).setCell hq _).setCell hq _
theorem rbegin_res {W : World} {tmps : Array Value} {q : Nat} {x0 x1 x2 x3 x4 x5 x6 x7 x8 x9 : Value} (h4 : tmps[4]? = some (.pointer (some ⟨q, 0, none⟩))) (hz : W.heap[q]? = some (.cells #[x0, x1, x2, x3, x4, x5, x6, x7, x8, x9] 28 (0, 0))) :
    (results Tryz.f16 tmps).run Tryz.prog W = .ok (.agg #[x0, x1, x2, x3, x4, x5, x6, x7, x8, x9]) W := by
  obtain ⟨⟨c0, c1, c2, c3, c4, c5, c6, c7, c8, c9⟩, _⟩ := cells10 hz
  simp [results, Tryz.results16, go_sem, h4, c0, c1, c2, c3, c4, c5, c6, c7, c8, c9]

set_option maxHeartbeats 1000000 in
theorem rbegin_done {w U : World} {tmps : Array Value} {N : Nat} {y : StartD} {s i av : Value} {line : Int} {b : Begun} (hb : b = .ok y) (hN : w.heap.size + 2 ≤ N) (h4 : tmps[4]? = some (.pointer (some ⟨w.heap.size + 1, 0, none⟩)))
    (hz : U.heap[w.heap.size + 1]? = some zS) (hB : Below w.heap.size w U) (hs : Kd.V (Kd.int .u8) 5 U 0 (fun k => N ≤ k) s y.seed) (hi : Kd.V (Kd.int .u8) 5 U 0 (fun k => N ≤ k) i y.image) :
    bodyPost Tryz.prog Tryz.f16 (RBeginP w b av line) .ret { tmps := tmps, defers := [] } (put10 U (w.heap.size + 1) (.int .i64 y.sector) (.int .i64 y.block) (.int .i64 y.slot) s i (.int .i64 y.version) av (.bool true) (.int .i64 line) (.int .i64 0)).drew := by
  have hq := put10_same (.int .i64 y.sector) (.int .i64 y.block) (.int .i64 y.slot) s i (.int .i64 y.version) av (.bool true) (.int .i64 line) (.int .i64 0) hz
  have hv : ∀ {u : Value} {xs : List Int}, Kd.V (Kd.int .u8) 5 U 0 (fun k => N ≤ k) u xs → Kd.V (Kd.int .u8) 5 (put10 U (w.heap.size + 1) (.int .i64 y.sector) (.int .i64 y.block) (.int .i64 y.slot) s i (.int .i64 y.version) av (.bool true) (.int .i64 line) (.int .i64 0)).drew 0 (fun k => w.heap.size ≤ k) u xs :=
    fun h => Kd.V_drew (Kd.V_mono (Kd.V_step h (fun k hk _ => put10_other _ _ _ _ _ _ _ _ _ _ (by omega))) (fun k hk => by omega))
  have hq := (congrArg (fun h : Array Obj => h[w.heap.size + 1]?) (heap_drew (put10 U (w.heap.size + 1) (.int .i64 y.sector) (.int .i64 y.block) (.int .i64 y.slot) s i (.int .i64 y.version) av (.bool true) (.int .i64 line) (.int .i64 0)))).trans hq
  have hs2 := hv hs
  have hi2 := hv hi
  have hB2 := Below.drew (put10_below (.int .i64 y.sector) (.int .i64 y.block) (.int .i64 y.slot) s i (.int .i64 y.version) av (.bool true) (.int .i64 line) (.int .i64 0) hB (show w.heap.size ≤ w.heap.size + 1 by omega))
  clear hv
  generalize hUf : (put10 U (w.heap.size + 1) (.int .i64 y.sector) (.int .i64 y.block) (.int .i64 y.slot) s i (.int .i64 y.version) av (.bool true) (.int .i64 line) (.int .i64 0)).drew = Uf at hq hs2 hi2 hB2 ⊢
  refine bodyPost_ret (rbegin_res h4 hq) rfl ?_
  unfold RBeginP
  rw [hb]
  exact ⟨hB2, s, i, rfl, hs2, hi2⟩

set_option maxRecDepth 100000 in
set_option maxHeartbeats 2000000 in
theorem rbegin_kind (t : ByteArray) (ht : t.size ≤ 5000) (w : World) (x : StartD) (A0 A1 A2 : Option Addr) (n0 n1 n2 c0 c1 c2 : Nat) (line : Int) (K : List UInt8) (R : List (List UInt8)) (hw0 : wordsOf t.data.toList = K :: R) (hk : ¬ K = wWorld) :
    Calls Tryz.prog 16 #[.agg (scells x (.slice A0 n0 c0) (.slice A1 n1 c1) (.slice A2 n2 c2) false line 0), .string t] w (RBeginP w (.bad 21) (.slice A2 n2 c2) line) := by
  go_enter Tryz.func16, Tryz.ntmps16
  go_wp2_with fail
  refine (rwords_any t ht _).mono ?_
  rintro e w1 ⟨k, r, g, c, rfl, hw, hg, hgl, ck, hV, hM, hB⟩
  rw [hw0] at hw
  injection hw with hw1 hw2
  obtain ⟨z2, z4, hBw⟩ := two_s hB
  have hk2 : ¬ k.toList = [119, 111, 114, 108, 100] := by rw [ByteArray.toList_eq, ← hw1]; exact hk
  have hk3 : (k.toList == [119, 111, 114, 108, 100]) = false := by simpa using hk2
  obtain ⟨⟨c20, c21, c22, c23, c24, c25, c26, c27, c28, c29⟩, f20, f21, f22, f23, f24, f25, f26, f27, f28, f29⟩ := cells10 z2
  obtain ⟨_, f40, f41, f42, f43, f44, f45, f46, f47, f48, f49⟩ := cells10 z4
  go_wp2
  have y4 : (w1.setCell ⟨w.heap.size, 9, none⟩ (.int .i64 21)).heap[w.heap.size + 1]? = some zS := (Below.heap_setCell _ _ _ _ (by show w.heap.size + 1 ≠ w.heap.size; omega)).trans z4
  exact bodyPost_ret (rbegin_res rfl (put10_same _ _ _ _ _ _ _ _ _ _ y4)) rfl ⟨put10_below _ _ _ _ _ _ _ _ _ _ (hBw.setCell (p := ⟨w.heap.size, 9, none⟩) (Nat.le_refl _) _) (by omega), x, _, _, ⟨_, _, _, rfl⟩, ⟨_, _, _, rfl⟩, rfl⟩

set_option maxRecDepth 100000 in
set_option maxHeartbeats 4000000 in
theorem rbegin_world (t : ByteArray) (ht : t.size ≤ 5000) (w : World) (x : StartD) (A0 A1 A2 : Option Addr) (n0 n1 n2 c0 c1 c2 : Nat) (line : Int) (R : List (List UInt8)) (hw0 : wordsOf t.data.toList = wWorld :: R) :
    Calls Tryz.prog 16 #[.agg (scells x (.slice A0 n0 c0) (.slice A1 n1 c1) (.slice A2 n2 c2) false line 0), .string t] w (RBeginP w (beginOf t.data.toList) (.slice A2 n2 c2) line) := by
  go_enter Tryz.func16, Tryz.ntmps16
  go_wp2_with fail
  refine (rwords_any t ht _).mono ?_
  rintro e w1 ⟨k, r, g, c, rfl, hw, hg, hgl, ck, hV, hM, hB⟩
  rw [hw0] at hw
  injection hw with hw1 hw2
  obtain ⟨z2, z4, hBw⟩ := two_s hB
  have hk2 : k.toList = [119, 111, 114, 108, 100] := by rw [ByteArray.toList_eq, ← hw1]; rfl
  have hk3 : (k.toList == [119, 111, 114, 108, 100]) = true := by simpa using hk2
  have hs1 : w.heap.size + 2 ≤ w1.heap.size := lt_of_block z4
  go_wp2_with fail
  refine (rfields_any (k :: r) (some ⟨g, 0, none⟩) c ⟨#[110, 110, 110, 110, 116, 116]⟩ (by decide) hM _ _ hV).mono ?_
  rintro e W ⟨p, v0, v1, rfl, hp, hN, hT, hv0, hv1, hB2⟩
  rw [show (k :: r).length = r.length + 1 from rfl, show ((k :: r).map fun b => b.data.toList).drop 1 = r.map fun b => b.data.toList from rfl, ← hw2] at hp
  have hlaw : begLaw p (beginOf t.data.toList) := by
    have hlen : r.length = R.length := by rw [hw2]; simp
    rw [hlen] at hp
    rw [beginOf_eq, hw0]
    exact begin_law R p hp
  have y2 := (hB2.block _ (show w.heap.size < w1.heap.size by omega)).trans z2
  have y4 := (hB2.block _ (show w.heap.size + 1 < w1.heap.size by omega)).trans z4
  have hBW : Below w.heap.size w W := hBw.trans (hB2.mono (by omega))
  have hs2 : w1.heap.size ≤ W.heap.size := hB2.size
  rcases hlaw with ⟨ho, hb⟩ | ⟨a, b, c', v, s, i, rfl, hb⟩
  · obtain ⟨B0, m0, rfl⟩ := Kd.V_slice hN
    obtain ⟨B1, m1, rfl⟩ := Kd.V_slice hT
    have u2 := (Below.heap_alloc W (.cells #[.slice B0 p.1.length m0, .slice B1 p.2.1.length m1] 108) _ (show w.heap.size < W.heap.size by omega)).trans y2
    have u4 := (Below.heap_alloc W (.cells #[.slice B0 p.1.length m0, .slice B1 p.2.1.length m1] 108) _ (show w.heap.size + 1 < W.heap.size by omega)).trans y4
    obtain ⟨⟨c20, c21, c22, c23, c24, c25, c26, c27, c28, c29⟩, f20, f21, f22, f23, f24, f25, f26, f27, f28, f29⟩ := cells10 u2
    obtain ⟨_, f40, f41, f42, f43, f44, f45, f46, f47, f48, f49⟩ := cells10 u4
    go_wp2
    have y4 : ((W.alloc (.cells #[.slice B0 p.1.length m0, .slice B1 p.2.1.length m1] 108)).setCell ⟨w.heap.size, 9, none⟩ (.int .i64 3)).heap[w.heap.size + 1]? = some zS := (Below.heap_setCell _ _ _ _ (by show w.heap.size + 1 ≠ w.heap.size; omega)).trans u4
    refine bodyPost_ret (rbegin_res rfl (put10_same _ _ _ _ _ _ _ _ _ _ y4)) rfl ?_
    unfold RBeginP
    rw [hb]
    exact ⟨put10_below _ _ _ _ _ _ _ _ _ _ ((hBW.alloc (by omega) _).setCell (p := ⟨w.heap.size, 9, none⟩) (Nat.le_refl _) _) (by omega), x, _, _, ⟨_, _, _, rfl⟩, ⟨_, _, _, rfl⟩, rfl⟩
  · obtain ⟨g0, m0, rfl, lb0⟩ := hv0 (by simp)
    obtain ⟨g1, m1, rfl, lb1⟩ := hv1 (by simp)
    obtain ⟨l0, B0, d0, t0, k0⟩ := texts_at hT 0 (by simp)
    obtain ⟨l1, B1, d1, t1, k1⟩ := texts_at hT 1 (by simp)
    obtain ⟨_, x0⟩ := ints_at hN 0 (by simp)
    obtain ⟨_, x1⟩ := ints_at hN 1 (by simp)
    obtain ⟨_, x2⟩ := ints_at hN 2 (by simp)
    obtain ⟨lg, x3⟩ := ints_at hN 3 (by simp)
    have hFo : ∀ k, k < W.heap.size → (W.alloc (.cells #[.slice (some ⟨g0, 0, none⟩) 4 m0, .slice (some ⟨g1, 0, none⟩) 2 m1] 108)).heap[k]? = W.heap[k]? := fun k hk => Below.heap_alloc _ _ _ hk
    have hF := heap_new W (.cells #[.slice (some ⟨g0, 0, none⟩) 4 m0, .slice (some ⟨g1, 0, none⟩) 2 m1] 108)
    obtain ⟨⟨e0, e1⟩, e2, e3⟩ := cells2 hF
    have x0 := (cell_same (W := W) (a := ⟨g0, 0, none⟩) (hFo _ lg)).trans x0
    have x1 := (cell_same (W := W) (a := ⟨g0, 1, none⟩) (hFo _ lg)).trans x1
    have x2 := (cell_same (W := W) (a := ⟨g0, 2, none⟩) (hFo _ lg)).trans x2
    have x3 := (cell_same (W := W) (a := ⟨g0, 3, none⟩) (hFo _ lg)).trans x3
    have t0 := (cell_same (W := W) (a := ⟨g1, 0, none⟩) (hFo _ l0)).trans t0
    have t1 := (cell_same (W := W) (a := ⟨g1, 1, none⟩) (hFo _ l0)).trans t1
    have u2 := (hFo _ (show w.heap.size < W.heap.size by omega)).trans y2
    have u4 := (hFo _ (show w.heap.size + 1 < W.heap.size by omega)).trans y4
    obtain ⟨⟨c20, c21, c22, c23, c24, c25, c26, c27, c28, c29⟩, f20, f21, f22, f23, f24, f25, f26, f27, f28, f29⟩ := cells10 u2
    obtain ⟨_, f40, f41, f42, f43, f44, f45, f46, f47, f48, f49⟩ := cells10 u4
    have k0 := Kd.V_step (w1 := W.alloc (.cells #[.slice (some ⟨g0, 0, none⟩) 4 m0, .slice (some ⟨g1, 0, none⟩) 2 m1] 108)) k0 (fun k _ hk => hFo k hk)
    have k1 := Kd.V_step (w1 := W.alloc (.cells #[.slice (some ⟨g0, 0, none⟩) 4 m0, .slice (some ⟨g1, 0, none⟩) 2 m1] 108)) k1 (fun k _ hk => hFo k hk)
    have hBV : Below w.heap.size w (W.alloc (.cells #[.slice (some ⟨g0, 0, none⟩) 4 m0, .slice (some ⟨g1, 0, none⟩) 2 m1] 108)) := hBW.alloc (by omega) _
    have hVs : (W.alloc (.cells #[.slice (some ⟨g0, 0, none⟩) 4 m0, .slice (some ⟨g1, 0, none⟩) 2 m1] 108)).heap.size = W.heap.size + 1 := by simp
    go_wp2_with fail
    clear hFo hF
    generalize W.alloc (.cells #[.slice (some ⟨g0, 0, none⟩) 4 m0, .slice (some ⟨g1, 0, none⟩) 2 m1] 108) = V at *
    have ne0 : ¬ g0 = w.heap.size := by omega
    have ne1 : ¬ g1 = w.heap.size := by omega
    have ne2 : ¬ W.heap.size = w.heap.size := by omega
    go_region
    go_wp2
    have hn4 : ∀ (U : World) (o : Nat) (u : Value), U.heap[w.heap.size + 1]? = some zS → (U.setCell ⟨w.heap.size, o, none⟩ u).heap[w.heap.size + 1]? = some zS := fun U o u h => (Below.heap_setCell _ _ _ _ (by show w.heap.size + 1 ≠ w.heap.size; omega)).trans h
    have hnd : ∀ (U : World), U.heap[w.heap.size + 1]? = some zS → U.drew.heap[w.heap.size + 1]? = some zS := fun U h => h
    have far : ∀ (U : World) (q o : Nat) (u A : Value) (xs : List Int), q < w1.heap.size → Kd.V (Kd.int .u8) 5 U 0 (fun k => w1.heap.size ≤ k) A xs → Kd.V (Kd.int .u8) 5 (U.setCell ⟨q, o, none⟩ u) 0 (fun k => w1.heap.size ≤ k) A xs :=
      fun U q o u A xs hq h => Kd.V_far h (p := ⟨q, o, none⟩) (fun k hk => by show k ≠ q; omega) u
    have hq1 : w.heap.size < w1.heap.size := by omega
    have bset : ∀ (U : World) (o : Nat) (u : Value), Below w.heap.size w U → Below w.heap.size w (U.setCell ⟨w.heap.size, o, none⟩ u) := fun U o u h => h.setCell (Nat.le_refl _) _
    refine rbegin_done (N := w1.heap.size) (y := ⟨a, b, c', s, i, v⟩) hb (by omega) rfl ?hz ?hB ?hs ?hi
    case hz =>
      repeat (first | (with_reducible exact u4) | (with_reducible refine hn4 _ _ _ ?_) | (with_reducible refine hnd _ ?_))
    case hB =>
      repeat (first | (with_reducible exact hBV) | (with_reducible refine bset _ _ _ ?_))
    case hs =>
      (repeat (with_reducible refine far _ _ _ _ _ _ hq1 ?_))
      exact k0
    case hi =>
      (repeat (with_reducible refine far _ _ _ _ _ _ hq1 ?_))
      exact k1

theorem rbegin_any (t : ByteArray) (ht : t.size ≤ 5000) (w : World) (x : StartD) (A0 A1 A2 : Option Addr) (n0 n1 n2 c0 c1 c2 : Nat) (line : Int) :
    Calls Tryz.prog 16 #[.agg (scells x (.slice A0 n0 c0) (.slice A1 n1 c1) (.slice A2 n2 c2) false line 0), .string t] w (RBeginP w (beginOf t.data.toList) (.slice A2 n2 c2) line) := by
  obtain ⟨K, R, hw⟩ := wordsOf_cons t.data.toList
  by_cases hk : K = wWorld
  · subst hk; exact rbegin_world t ht w x A0 A1 A2 n0 n1 n2 c0 c1 c2 line R hw
  · have hb : beginOf t.data.toList = .bad 21 := by rw [beginOf_eq, hw, startOf, if_neg hk]; rfl
    rw [hb]
    exact rbegin_kind t ht w x A0 A1 A2 n0 n1 n2 c0 c1 c2 line K R hw hk
end Go.Proofs.YtccnmbfigpjkaaaGreatDoor
