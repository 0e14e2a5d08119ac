/-
  DERIVED. The reference's Act: the walk, kind by kind.
-/
import Derived.Test.YtccnmbfigpjkaaaGreatDoorRf
namespace Go.Proofs.YtccnmbfigpjkaaaGreatDoor
open Go.RowKit Go.Sort Go.Proofs.YtccnmbfigpjkaaaGreatDoorW.PrintWords Go.Proofs.YtccnmbfigpjkaaaGreatDoorW.PrintMore Go.Proofs.YtccnmbfigpjkaaaGreatDoor.PScriptRefuses
open Scr

abbrev zAct : Obj := .cells #[.int .u8 0, .int .u8 0, .int .i64 0, .int .i64 0, .int .u64 0, .slice none 0 0] 49
theorem two_zero {w w1 W : World} {nd : Nat} (hB : Below ((w.alloc zAct).alloc zAct).heap.size ((w.alloc zAct).alloc zAct) w1) (hB2 : Below (w1.drewN nd).heap.size (w1.drewN nd) W) :
    W.heap[w.heap.size]? = some zAct ∧ W.heap[w.heap.size + 1]? = some zAct := by
  have hs := hB.size
  have h2 : (w1.drewN nd).heap.size = w1.heap.size := by simp
  have hh : ∀ k, k < w.heap.size + 2 → W.heap[k]? = ((w.alloc zAct).alloc zAct).heap[k]? := fun k hk => by
    rw [hB2.block k (by rw [h2]; simp at hs; omega)]
    have : (w1.drewN nd).heap[k]? = w1.heap[k]? := rfl
    rw [this, hB.block k (by simp; omega)]
  refine ⟨?_, ?_⟩
  · rw [hh _ (by omega), Below.heap_alloc _ _ _ (by simp)]; exact heap_new w zAct
  · rw [hh _ (by omega)]; have := heap_new (w.alloc zAct) zAct; rwa [World.size_alloc] at this

theorem cell_same {W W1 : World} {a : Addr} (h : W1.heap[a.block]? = W.heap[a.block]?) : W1.cell? a = W.cell? a := by unfold World.cell?; rw [h]
theorem cells2 {W : World} {q : Nat} {x0 x1 : Value} {t : TypeId} (h : W.heap[q]? = some (.cells #[x0, x1] t (0, 0))) :
    (W.cell? ⟨q, 0, none⟩ = some x0 ∧ W.cell? ⟨q, 1, none⟩ = some x1) ∧ (W.frozen? ⟨q, 0, none⟩ = false ∧ W.frozen? ⟨q, 1, none⟩ = false) := by
  simp [World.cell?, World.frozen?, h]
/-- The world behind the fields, whatever the act holds. -/
abbrev fld (W : World) (v0 v1 : Value) (o : Obj) : World := (W.alloc (.cells #[v0, v1] 108)).alloc o
theorem fld_old {W : World} (v0 v1 : Value) (o : Obj) {k : Nat} (h : k < W.heap.size) : (fld W v0 v1 o).heap[k]? = W.heap[k]? := by
  rw [Below.heap_alloc _ _ _ (by simp; omega), Below.heap_alloc _ _ _ h]
theorem fld_f (W : World) (v0 v1 : Value) (o : Obj) : (fld W v0 v1 o).cell? ⟨W.heap.size, 0, none⟩ = some v0 ∧ (fld W v0 v1 o).cell? ⟨W.heap.size, 1, none⟩ = some v1 := by
  have : (fld W v0 v1 o).heap[W.heap.size]? = some (.cells #[v0, v1] 108 (0, 0)) := by
    rw [Below.heap_alloc _ _ _ (by simp)]; exact heap_new W _
  exact (cells2 this).1
theorem fld_cell {W : World} {g i : Nat} {v : Value} (v0 v1 : Value) (h : g < W.heap.size ∧ W.cell? ⟨g, i, none⟩ = some v) : ∀ o, (fld W v0 v1 o).cell? ⟨g, i, none⟩ = some v := fun o => (cell_same (W := W) (fld_old v0 v1 o h.1)).trans h.2

/-- The result is stored. -/
abbrev put6 (U : World) (q : Nat) (x0 x1 x2 x3 x4 x5 : Value) : World := (((((U.setCell ⟨q, 0, none⟩ x0).setCell ⟨q, 1, none⟩ x1).setCell ⟨q, 2, none⟩ x2).setCell ⟨q, 3, none⟩ x3).setCell ⟨q, 4, none⟩ x4).setCell ⟨q, 5, none⟩ x5
theorem put6_same {U : World} {q : Nat} {y0 y1 y2 y3 y4 y5 : Value} (x0 x1 x2 x3 x4 x5 : Value) {t : TypeId} (h : U.heap[q]? = some (.cells #[y0, y1, y2, y3, y4, y5] t (0, 0))) : (put6 U q x0 x1 x2 x3 x4 x5).heap[q]? = some (.cells #[x0, x1, x2, x3, x4, x5] t (0, 0)) :=
  setCell_heap (setCell_heap (setCell_heap (setCell_heap (setCell_heap (setCell_heap h)))))
theorem put6_other {U : World} {q : Nat} (x0 x1 x2 x3 x4 x5 : Value) {k : Nat} (h : k ≠ q) : (put6 U q x0 x1 x2 x3 x4 x5).heap[k]? = U.heap[k]? := by
  rw [Below.heap_setCell _ _ _ _ h, Below.heap_setCell _ _ _ _ h, Below.heap_setCell _ _ _ _ h, Below.heap_setCell _ _ _ _ h, Below.heap_setCell _ _ _ _ h, Below.heap_setCell _ _ _ _ h]
theorem ract_done {w U : World} {tmps : Array Value} {a : ActD} {v x0 x1 x2 x3 x4 x5 y0 y1 y2 y3 y4 y5 : Value} {e : Int} (h2 : tmps[2]? = some (.pointer (some ⟨w.heap.size, 0, none⟩))) (h3 : tmps[3]? = some (.int .i64 e))
    (hz : U.heap[w.heap.size]? = some (.cells #[y0, y1, y2, y3, y4, y5] 49 (0, 0))) (hx : [x0, x1, x2, x3, x4, x5] = actCells a v) (hv : Kd.V (Kd.int .u8) 5 U 0 (fun k => w.heap.size + 1 ≤ k) v a.data) (hB : Below w.heap.size w U) :
    bodyPost Tryz.prog Tryz.f17 (RActP w (a, e)) .ret { tmps := tmps, defers := [] } (put6 U w.heap.size x0 x1 x2 x3 x4 x5) := by
  have hq := put6_same x0 x1 x2 x3 x4 x5 hz
  obtain ⟨⟨c0, c1, c2, c3, c4, c5⟩, _⟩ := cells6 hq
  have hB2 : Below w.heap.size w (put6 U w.heap.size x0 x1 x2 x3 x4 x5) := (((((hB.setCell (Nat.le_refl _) _).setCell (Nat.le_refl _) _).setCell (Nat.le_refl _) _).setCell (Nat.le_refl _) _).setCell (Nat.le_refl _) _).setCell (Nat.le_refl _) _
  have hv2 : Kd.V (Kd.int .u8) 5 (put6 U w.heap.size x0 x1 x2 x3 x4 x5) 0 (fun k => w.heap.size ≤ k) v a.data := Kd.V_mono (Kd.V_step hv (fun k hk _ => put6_other x0 x1 x2 x3 x4 x5 (by omega))) (fun k hk => by omega)
  generalize put6 U w.heap.size x0 x1 x2 x3 x4 x5 = Uf at hq c0 c1 c2 c3 c4 c5 hB2 hv2 ⊢
  refine bodyPost_ret (v := .tuple #[.agg #[x0, x1, x2, x3, x4, x5], .int .i64 e]) (by simp [results, Tryz.results17, go_sem, h2, h3, c0, c1, c2, c3, c4, c5]) rfl ⟨v, ?_, hv2, hB2⟩
  rw [← hx]

set_option maxRecDepth 100000 in
set_option maxHeartbeats 2000000 in
theorem ract_build (s : ByteArray) (hs : s.size ≤ 5000) (w : World) (K : List UInt8) (R : List (List UInt8)) (hw0 : wordsOf s.data.toList = K :: R) (hk : K = wBuild) :
    Calls Tryz.prog 17 #[.string s] w (RActP w (actR s.data.toList)) := by
  go_enter Tryz.func17, Tryz.ntmps17
  go_wp2_with fail
  refine (rwords_any s hs _).mono ?_
  rintro e w1 ⟨k, r, g, c, rfl, hw, hg, hgl, ck, hV, hM, hB⟩
  rw [hw0] at hw
  injection hw with hw1 hw2
  subst hk
  go_wp2_with fail
  refine (rform_any k ⟨#[98, 110, 116]⟩ 1 true (by rw [← hw1]; rfl) _).mono ?_
  rintro e w2 ⟨rfl, nd, rfl⟩
  have hV2 := Kd.V_drewN hV nd
  go_wp2_with fail
  refine (rfields_any (k :: r) (some ⟨g, 0, none⟩) c ⟨#[98, 110, 116]⟩ (by decide) hM _ _ hV2).mono ?_
  rintro e W ⟨p, v0, v1, rfl, hp, hN, hT, hv0, hv1, hB2⟩
  rw [show (k :: r).length = r.length + 1 from rfl, show ((k :: r).map fun b => b.data.toList).drop 1 = r.map fun b => b.data.toList from rfl, ← hw2] at hp
  have hact : actTail 1 p = some (tup (actR s.data.toList)) := by
    have hlen : r.length = R.length := by rw [hw2]; simp
    rw [hlen] at hp
    rw [tail_bnt R p hp, actR, hw0]
    rfl
  have hBw : Below w.heap.size w W := (((((Below.refl _ w).alloc (Nat.le_refl _) _).alloc (by simp) _).trans (hB.mono (by simp; omega))).trans (below_drewN (Below.refl _ _) nd)).trans (hB2.mono (by have := hB.size; simp at this ⊢; omega))
  obtain ⟨z2, z4⟩ := two_zero (nd := nd) hB hB2
  have hWs : w.heap.size + 2 ≤ W.heap.size := lt_of_block z4
  cases ho : p.2.2 with
  | false =>
    rw [tail_no ho] at hact
    obtain ⟨A0, m0, rfl⟩ := Kd.V_slice hN
    obtain ⟨A1, m1, rfl⟩ := Kd.V_slice hT
    have hq := tup_inj (Option.some.inj hact)
    have y2 := (Below.heap_alloc W (.cells #[.slice A0 p.1.length m0, .slice A1 p.2.1.length m1] 108) _ (by omega)).trans z2
    obtain ⟨⟨c20, c21, c22, c23, c24, c25⟩, f20, f21, f22, f23, f24, f25⟩ := cells6 y2
    obtain ⟨⟨c40, c41, c42, c43, c44, c45⟩, f40, f41, f42, f43, f44, f45⟩ := cells6 ((Below.heap_alloc W (.cells #[.slice A0 p.1.length m0, .slice A1 p.2.1.length m1] 108) _ (by omega)).trans z4)
    go_wp2
    rw [← hq]
    exact ract_done (a := actZ) rfl rfl y2 rfl (Kd.V_nil _ _ _ _ _) (hBw.alloc (by omega) _)
  | true =>
    obtain ⟨l0, l1⟩ := fldR_len hp ho
    obtain ⟨n, t, b⟩ := p
    simp only at ho l0 l1 hact hN hT hv0 hv1
    subst ho
    match n, l0 with
    | [x, y], _ =>
      match t, l1 with
      | [d], _ =>
        have hq : actR s.data.toList = (⟨1, x % 256, 0, 0, IntKind.u64.wrap y, d⟩, 0) := tup_inj (Option.some.inj hact).symm
        obtain ⟨g0, m0, rfl, _⟩ := hv0 (by simp)
        obtain ⟨g1, m1, rfl, _⟩ := hv1 (by simp)
        have x0 := fld_cell (.slice (some ⟨g0, 0, none⟩) 2 m0) (.slice (some ⟨g1, 0, none⟩) 1 m1) (ints_at hN 0 (by simp))
        have x1 := fld_cell (.slice (some ⟨g0, 0, none⟩) 2 m0) (.slice (some ⟨g1, 0, none⟩) 1 m1) (ints_at hN 1 (by simp))
        obtain ⟨tl0, AT0, mt0, tc0, tv0⟩ := texts_at hT 0 (by simp)
        have y0 := fld_cell (.slice (some ⟨g0, 0, none⟩) 2 m0) (.slice (some ⟨g1, 0, none⟩) 1 m1) ⟨tl0, tc0⟩
        have e0 := fun o => (fld_f W (.slice (some ⟨g0, 0, none⟩) 2 m0) (.slice (some ⟨g1, 0, none⟩) 1 m1) o).1
        have e1 := fun o => (fld_f W (.slice (some ⟨g0, 0, none⟩) 2 m0) (.slice (some ⟨g1, 0, none⟩) 1 m1) o).2
        have hz := fun o => cells6 ((fld_old (.slice (some ⟨g0, 0, none⟩) 2 m0) (.slice (some ⟨g1, 0, none⟩) 1 m1) o (show w.heap.size < W.heap.size by omega)).trans z2)
        go_wp2
        rw [hq]
        exact ract_done (a := ⟨1, x % 256, 0, 0, IntKind.u64.wrap y, d⟩) rfl rfl ((fld_old _ _ _ (by omega)).trans z2) rfl (Kd.V_mono (Kd.V_step tv0 (fun k _ hk => fld_old _ _ _ hk)) (fun k hk => by have := hB.size; simp at this hk; omega)) ((hBw.alloc (by omega) _).alloc (by simp; omega) _)

set_option maxRecDepth 100000 in
set_option maxHeartbeats 2000000 in
theorem ract_feed (s : ByteArray) (hs : s.size ≤ 5000) (w : World) (K : List UInt8) (R : List (List UInt8)) (hw0 : wordsOf s.data.toList = K :: R) (hk : K = wFeed) :
    Calls Tryz.prog 17 #[.string s] w (RActP w (actR s.data.toList)) := by
  go_enter Tryz.func17, Tryz.ntmps17
  go_wp2_with fail
  refine (rwords_any s hs _).mono ?_
  rintro e w1 ⟨k, r, g, c, rfl, hw, hg, hgl, ck, hV, hM, hB⟩
  rw [hw0] at hw
  injection hw with hw1 hw2
  subst hk
  go_wp2_with fail
  refine (rform_any k ⟨#[110, 110]⟩ 2 true (by rw [← hw1]; rfl) _).mono ?_
  rintro e w2 ⟨rfl, nd, rfl⟩
  have hV2 := Kd.V_drewN hV nd
  go_wp2_with fail
  refine (rfields_any (k :: r) (some ⟨g, 0, none⟩) c ⟨#[110, 110]⟩ (by decide) hM _ _ hV2).mono ?_
  rintro e W ⟨p, v0, v1, rfl, hp, hN, hT, hv0, hv1, hB2⟩
  rw [show (k :: r).length = r.length + 1 from rfl, show ((k :: r).map fun b => b.data.toList).drop 1 = r.map fun b => b.data.toList from rfl, ← hw2] at hp
  have hact : actTail 2 p = some (tup (actR s.data.toList)) := by
    have hlen : r.length = R.length := by rw [hw2]; simp
    rw [hlen] at hp
    rw [tail_n2 R p hp, actR, hw0]
    rfl
  have hBw : Below w.heap.size w W := (((((Below.refl _ w).alloc (Nat.le_refl _) _).alloc (by simp) _).trans (hB.mono (by simp; omega))).trans (below_drewN (Below.refl _ _) nd)).trans (hB2.mono (by have := hB.size; simp at this ⊢; omega))
  obtain ⟨z2, z4⟩ := two_zero (nd := nd) hB hB2
  have hWs : w.heap.size + 2 ≤ W.heap.size := lt_of_block z4
  cases ho : p.2.2 with
  | false =>
    rw [tail_no ho] at hact
    obtain ⟨A0, m0, rfl⟩ := Kd.V_slice hN
    obtain ⟨A1, m1, rfl⟩ := Kd.V_slice hT
    have hq := tup_inj (Option.some.inj hact)
    have y2 := (Below.heap_alloc W (.cells #[.slice A0 p.1.length m0, .slice A1 p.2.1.length m1] 108) _ (by omega)).trans z2
    obtain ⟨⟨c20, c21, c22, c23, c24, c25⟩, f20, f21, f22, f23, f24, f25⟩ := cells6 y2
    obtain ⟨⟨c40, c41, c42, c43, c44, c45⟩, f40, f41, f42, f43, f44, f45⟩ := cells6 ((Below.heap_alloc W (.cells #[.slice A0 p.1.length m0, .slice A1 p.2.1.length m1] 108) _ (by omega)).trans z4)
    go_wp2
    rw [← hq]
    exact ract_done (a := actZ) rfl rfl y2 rfl (Kd.V_nil _ _ _ _ _) (hBw.alloc (by omega) _)
  | true =>
    obtain ⟨l0, l1⟩ := fldR_len hp ho
    obtain ⟨n, t, b⟩ := p
    simp only at ho l0 l1 hact hN hT hv0 hv1
    subst ho
    match n, l0 with
    | [x, y], _ =>
      match t, l1 with
      | [], _ =>
        have hq : actR s.data.toList = (⟨2, 0, x, y, 0, []⟩, 0) := tup_inj (Option.some.inj hact).symm
        obtain ⟨g0, m0, rfl, _⟩ := hv0 (by simp)
        obtain ⟨A1, m1, rfl⟩ := Kd.V_slice hT
        have x0 := fld_cell (.slice (some ⟨g0, 0, none⟩) 2 m0) (.slice A1 0 m1) (ints_at hN 0 (by simp))
        have x1 := fld_cell (.slice (some ⟨g0, 0, none⟩) 2 m0) (.slice A1 0 m1) (ints_at hN 1 (by simp))
        have e0 := fun o => (fld_f W (.slice (some ⟨g0, 0, none⟩) 2 m0) (.slice A1 0 m1) o).1
        have e1 := fun o => (fld_f W (.slice (some ⟨g0, 0, none⟩) 2 m0) (.slice A1 0 m1) o).2
        have hz := fun o => cells6 ((fld_old (.slice (some ⟨g0, 0, none⟩) 2 m0) (.slice A1 0 m1) o (show w.heap.size < W.heap.size by omega)).trans z2)
        go_wp2
        rw [hq]
        exact ract_done (a := ⟨2, 0, x, y, 0, []⟩) rfl rfl ((fld_old _ _ _ (by omega)).trans z2) rfl (Kd.V_nil _ _ _ _ _) ((hBw.alloc (by omega) _).alloc (by simp; omega) _)

set_option maxRecDepth 100000 in
set_option maxHeartbeats 2000000 in
theorem ract_begin (s : ByteArray) (hs : s.size ≤ 5000) (w : World) (K : List UInt8) (R : List (List UInt8)) (hw0 : wordsOf s.data.toList = K :: R) (hk : K = wBegin) :
    Calls Tryz.prog 17 #[.string s] w (RActP w (actR s.data.toList)) := by
  go_enter Tryz.func17, Tryz.ntmps17
  go_wp2_with fail
  refine (rwords_any s hs _).mono ?_
  rintro e w1 ⟨k, r, g, c, rfl, hw, hg, hgl, ck, hV, hM, hB⟩
  rw [hw0] at hw
  injection hw with hw1 hw2
  subst hk
  go_wp2_with fail
  refine (rform_any k ⟨#[]⟩ 3 true (by rw [← hw1]; rfl) _).mono ?_
  rintro e w2 ⟨rfl, nd, rfl⟩
  have hV2 := Kd.V_drewN hV nd
  go_wp2_with fail
  refine (rfields_any (k :: r) (some ⟨g, 0, none⟩) c ⟨#[]⟩ (by decide) hM _ _ hV2).mono ?_
  rintro e W ⟨p, v0, v1, rfl, hp, hN, hT, hv0, hv1, hB2⟩
  rw [show (k :: r).length = r.length + 1 from rfl, show ((k :: r).map fun b => b.data.toList).drop 1 = r.map fun b => b.data.toList from rfl, ← hw2] at hp
  have hact : actTail 3 p = some (tup (actR s.data.toList)) := by
    have hlen : r.length = R.length := by rw [hw2]; simp
    rw [hlen] at hp
    rw [tail_bare 3 (by decide) R p hp, actR, hw0]
    rfl
  have hBw : Below w.heap.size w W := (((((Below.refl _ w).alloc (Nat.le_refl _) _).alloc (by simp) _).trans (hB.mono (by simp; omega))).trans (below_drewN (Below.refl _ _) nd)).trans (hB2.mono (by have := hB.size; simp at this ⊢; omega))
  obtain ⟨z2, z4⟩ := two_zero (nd := nd) hB hB2
  have hWs : w.heap.size + 2 ≤ W.heap.size := lt_of_block z4
  cases ho : p.2.2 with
  | false =>
    rw [tail_no ho] at hact
    obtain ⟨A0, m0, rfl⟩ := Kd.V_slice hN
    obtain ⟨A1, m1, rfl⟩ := Kd.V_slice hT
    have hq := tup_inj (Option.some.inj hact)
    have y2 := (Below.heap_alloc W (.cells #[.slice A0 p.1.length m0, .slice A1 p.2.1.length m1] 108) _ (by omega)).trans z2
    obtain ⟨⟨c20, c21, c22, c23, c24, c25⟩, f20, f21, f22, f23, f24, f25⟩ := cells6 y2
    obtain ⟨⟨c40, c41, c42, c43, c44, c45⟩, f40, f41, f42, f43, f44, f45⟩ := cells6 ((Below.heap_alloc W (.cells #[.slice A0 p.1.length m0, .slice A1 p.2.1.length m1] 108) _ (by omega)).trans z4)
    go_wp2
    rw [← hq]
    exact ract_done (a := actZ) rfl rfl y2 rfl (Kd.V_nil _ _ _ _ _) (hBw.alloc (by omega) _)
  | true =>
    obtain ⟨l0, l1⟩ := fldR_len hp ho
    obtain ⟨n, t, b⟩ := p
    simp only at ho l0 l1 hact hN hT hv0 hv1
    subst ho
    match n, l0 with
    | [], _ =>
      match t, l1 with
      | [], _ =>
        have hq : actR s.data.toList = (⟨3, 0, 0, 0, 0, []⟩, 0) := tup_inj (Option.some.inj hact).symm
        obtain ⟨A0, m0, rfl⟩ := Kd.V_slice hN
        obtain ⟨A1, m1, rfl⟩ := Kd.V_slice hT
        have e0 := fun o => (fld_f W (.slice A0 0 m0) (.slice A1 0 m1) o).1
        have e1 := fun o => (fld_f W (.slice A0 0 m0) (.slice A1 0 m1) o).2
        have hz := fun o => cells6 ((fld_old (.slice A0 0 m0) (.slice A1 0 m1) o (show w.heap.size < W.heap.size by omega)).trans z2)
        go_wp2
        rw [hq]
        exact ract_done (a := ⟨3, 0, 0, 0, 0, []⟩) rfl rfl ((fld_old _ _ _ (by omega)).trans z2) rfl (Kd.V_nil _ _ _ _ _) ((hBw.alloc (by omega) _).alloc (by simp; omega) _)

set_option maxRecDepth 100000 in
set_option maxHeartbeats 2000000 in
theorem ract_commit (s : ByteArray) (hs : s.size ≤ 5000) (w : World) (K : List UInt8) (R : List (List UInt8)) (hw0 : wordsOf s.data.toList = K :: R) (hk : K = wCommit) :
    Calls Tryz.prog 17 #[.string s] w (RActP w (actR s.data.toList)) := by
  go_enter Tryz.func17, Tryz.ntmps17
  go_wp2_with fail
  refine (rwords_any s hs _).mono ?_
  rintro e w1 ⟨k, r, g, c, rfl, hw, hg, hgl, ck, hV, hM, hB⟩
  rw [hw0] at hw
  injection hw with hw1 hw2
  subst hk
  go_wp2_with fail
  refine (rform_any k ⟨#[]⟩ 4 true (by rw [← hw1]; rfl) _).mono ?_
  rintro e w2 ⟨rfl, nd, rfl⟩
  have hV2 := Kd.V_drewN hV nd
  go_wp2_with fail
  refine (rfields_any (k :: r) (some ⟨g, 0, none⟩) c ⟨#[]⟩ (by decide) hM _ _ hV2).mono ?_
  rintro e W ⟨p, v0, v1, rfl, hp, hN, hT, hv0, hv1, hB2⟩
  rw [show (k :: r).length = r.length + 1 from rfl, show ((k :: r).map fun b => b.data.toList).drop 1 = r.map fun b => b.data.toList from rfl, ← hw2] at hp
  have hact : actTail 4 p = some (tup (actR s.data.toList)) := by
    have hlen : r.length = R.length := by rw [hw2]; simp
    rw [hlen] at hp
    rw [tail_bare 4 (by decide) R p hp, actR, hw0]
    rfl
  have hBw : Below w.heap.size w W := (((((Below.refl _ w).alloc (Nat.le_refl _) _).alloc (by simp) _).trans (hB.mono (by simp; omega))).trans (below_drewN (Below.refl _ _) nd)).trans (hB2.mono (by have := hB.size; simp at this ⊢; omega))
  obtain ⟨z2, z4⟩ := two_zero (nd := nd) hB hB2
  have hWs : w.heap.size + 2 ≤ W.heap.size := lt_of_block z4
  cases ho : p.2.2 with
  | false =>
    rw [tail_no ho] at hact
    obtain ⟨A0, m0, rfl⟩ := Kd.V_slice hN
    obtain ⟨A1, m1, rfl⟩ := Kd.V_slice hT
    have hq := tup_inj (Option.some.inj hact)
    have y2 := (Below.heap_alloc W (.cells #[.slice A0 p.1.length m0, .slice A1 p.2.1.length m1] 108) _ (by omega)).trans z2
    obtain ⟨⟨c20, c21, c22, c23, c24, c25⟩, f20, f21, f22, f23, f24, f25⟩ := cells6 y2
    obtain ⟨⟨c40, c41, c42, c43, c44, c45⟩, f40, f41, f42, f43, f44, f45⟩ := cells6 ((Below.heap_alloc W (.cells #[.slice A0 p.1.length m0, .slice A1 p.2.1.length m1] 108) _ (by omega)).trans z4)
    go_wp2
    rw [← hq]
    exact ract_done (a := actZ) rfl rfl y2 rfl (Kd.V_nil _ _ _ _ _) (hBw.alloc (by omega) _)
  | true =>
    obtain ⟨l0, l1⟩ := fldR_len hp ho
    obtain ⟨n, t, b⟩ := p
    simp only at ho l0 l1 hact hN hT hv0 hv1
    subst ho
    match n, l0 with
    | [], _ =>
      match t, l1 with
      | [], _ =>
        have hq : actR s.data.toList = (⟨4, 0, 0, 0, 0, []⟩, 0) := tup_inj (Option.some.inj hact).symm
        obtain ⟨A0, m0, rfl⟩ := Kd.V_slice hN
        obtain ⟨A1, m1, rfl⟩ := Kd.V_slice hT
        have e0 := fun o => (fld_f W (.slice A0 0 m0) (.slice A1 0 m1) o).1
        have e1 := fun o => (fld_f W (.slice A0 0 m0) (.slice A1 0 m1) o).2
        have hz := fun o => cells6 ((fld_old (.slice A0 0 m0) (.slice A1 0 m1) o (show w.heap.size < W.heap.size by omega)).trans z2)
        go_wp2
        rw [hq]
        exact ract_done (a := ⟨4, 0, 0, 0, 0, []⟩) rfl rfl ((fld_old _ _ _ (by omega)).trans z2) rfl (Kd.V_nil _ _ _ _ _) ((hBw.alloc (by omega) _).alloc (by simp; omega) _)

set_option maxRecDepth 100000 in
set_option maxHeartbeats 2000000 in
theorem ract_cancel (s : ByteArray) (hs : s.size ≤ 5000) (w : World) (K : List UInt8) (R : List (List UInt8)) (hw0 : wordsOf s.data.toList = K :: R) (hk : K = wCancel) :
    Calls Tryz.prog 17 #[.string s] w (RActP w (actR s.data.toList)) := by
  go_enter Tryz.func17, Tryz.ntmps17
  go_wp2_with fail
  refine (rwords_any s hs _).mono ?_
  rintro e w1 ⟨k, r, g, c, rfl, hw, hg, hgl, ck, hV, hM, hB⟩
  rw [hw0] at hw
  injection hw with hw1 hw2
  subst hk
  go_wp2_with fail
  refine (rform_any k ⟨#[]⟩ 5 true (by rw [← hw1]; rfl) _).mono ?_
  rintro e w2 ⟨rfl, nd, rfl⟩
  have hV2 := Kd.V_drewN hV nd
  go_wp2_with fail
  refine (rfields_any (k :: r) (some ⟨g, 0, none⟩) c ⟨#[]⟩ (by decide) hM _ _ hV2).mono ?_
  rintro e W ⟨p, v0, v1, rfl, hp, hN, hT, hv0, hv1, hB2⟩
  rw [show (k :: r).length = r.length + 1 from rfl, show ((k :: r).map fun b => b.data.toList).drop 1 = r.map fun b => b.data.toList from rfl, ← hw2] at hp
  have hact : actTail 5 p = some (tup (actR s.data.toList)) := by
    have hlen : r.length = R.length := by rw [hw2]; simp
    rw [hlen] at hp
    rw [tail_bare 5 (by decide) R p hp, actR, hw0]
    rfl
  have hBw : Below w.heap.size w W := (((((Below.refl _ w).alloc (Nat.le_refl _) _).alloc (by simp) _).trans (hB.mono (by simp; omega))).trans (below_drewN (Below.refl _ _) nd)).trans (hB2.mono (by have := hB.size; simp at this ⊢; omega))
  obtain ⟨z2, z4⟩ := two_zero (nd := nd) hB hB2
  have hWs : w.heap.size + 2 ≤ W.heap.size := lt_of_block z4
  cases ho : p.2.2 with
  | false =>
    rw [tail_no ho] at hact
    obtain ⟨A0, m0, rfl⟩ := Kd.V_slice hN
    obtain ⟨A1, m1, rfl⟩ := Kd.V_slice hT
    have hq := tup_inj (Option.some.inj hact)
    have y2 := (Below.heap_alloc W (.cells #[.slice A0 p.1.length m0, .slice A1 p.2.1.length m1] 108) _ (by omega)).trans z2
    obtain ⟨⟨c20, c21, c22, c23, c24, c25⟩, f20, f21, f22, f23, f24, f25⟩ := cells6 y2
    obtain ⟨⟨c40, c41, c42, c43, c44, c45⟩, f40, f41, f42, f43, f44, f45⟩ := cells6 ((Below.heap_alloc W (.cells #[.slice A0 p.1.length m0, .slice A1 p.2.1.length m1] 108) _ (by omega)).trans z4)
    go_wp2
    rw [← hq]
    exact ract_done (a := actZ) rfl rfl y2 rfl (Kd.V_nil _ _ _ _ _) (hBw.alloc (by omega) _)
  | true =>
    obtain ⟨l0, l1⟩ := fldR_len hp ho
    obtain ⟨n, t, b⟩ := p
    simp only at ho l0 l1 hact hN hT hv0 hv1
    subst ho
    match n, l0 with
    | [], _ =>
      match t, l1 with
      | [], _ =>
        have hq : actR s.data.toList = (⟨5, 0, 0, 0, 0, []⟩, 0) := tup_inj (Option.some.inj hact).symm
        obtain ⟨A0, m0, rfl⟩ := Kd.V_slice hN
        obtain ⟨A1, m1, rfl⟩ := Kd.V_slice hT
        have e0 := fun o => (fld_f W (.slice A0 0 m0) (.slice A1 0 m1) o).1
        have e1 := fun o => (fld_f W (.slice A0 0 m0) (.slice A1 0 m1) o).2
        have hz := fun o => cells6 ((fld_old (.slice A0 0 m0) (.slice A1 0 m1) o (show w.heap.size < W.heap.size by omega)).trans z2)
        go_wp2
        rw [hq]
        exact ract_done (a := ⟨5, 0, 0, 0, 0, []⟩) rfl rfl ((fld_old _ _ _ (by omega)).trans z2) rfl (Kd.V_nil _ _ _ _ _) ((hBw.alloc (by omega) _).alloc (by simp; omega) _)

set_option maxRecDepth 100000 in
set_option maxHeartbeats 2000000 in
theorem ract_fuse (s : ByteArray) (hs : s.size ≤ 5000) (w : World) (K : List UInt8) (R : List (List UInt8)) (hw0 : wordsOf s.data.toList = K :: R) (hk : K = wFuse) :
    Calls Tryz.prog 17 #[.string s] w (RActP w (actR s.data.toList)) := by
  go_enter Tryz.func17, Tryz.ntmps17
  go_wp2_with fail
  refine (rwords_any s hs _).mono ?_
  rintro e w1 ⟨k, r, g, c, rfl, hw, hg, hgl, ck, hV, hM, hB⟩
  rw [hw0] at hw
  injection hw with hw1 hw2
  subst hk
  go_wp2_with fail
  refine (rform_any k ⟨#[110]⟩ 6 true (by rw [← hw1]; rfl) _).mono ?_
  rintro e w2 ⟨rfl, nd, rfl⟩
  have hV2 := Kd.V_drewN hV nd
  go_wp2_with fail
  refine (rfields_any (k :: r) (some ⟨g, 0, none⟩) c ⟨#[110]⟩ (by decide) hM _ _ hV2).mono ?_
  rintro e W ⟨p, v0, v1, rfl, hp, hN, hT, hv0, hv1, hB2⟩
  rw [show (k :: r).length = r.length + 1 from rfl, show ((k :: r).map fun b => b.data.toList).drop 1 = r.map fun b => b.data.toList from rfl, ← hw2] at hp
  have hact : actTail 6 p = some (tup (actR s.data.toList)) := by
    have hlen : r.length = R.length := by rw [hw2]; simp
    rw [hlen] at hp
    rw [tail_n1 R p hp, actR, hw0]
    rfl
  have hBw : Below w.heap.size w W := (((((Below.refl _ w).alloc (Nat.le_refl _) _).alloc (by simp) _).trans (hB.mono (by simp; omega))).trans (below_drewN (Below.refl _ _) nd)).trans (hB2.mono (by have := hB.size; simp at this ⊢; omega))
  obtain ⟨z2, z4⟩ := two_zero (nd := nd) hB hB2
  have hWs : w.heap.size + 2 ≤ W.heap.size := lt_of_block z4
  cases ho : p.2.2 with
  | false =>
    rw [tail_no ho] at hact
    obtain ⟨A0, m0, rfl⟩ := Kd.V_slice hN
    obtain ⟨A1, m1, rfl⟩ := Kd.V_slice hT
    have hq := tup_inj (Option.some.inj hact)
    have y2 := (Below.heap_alloc W (.cells #[.slice A0 p.1.length m0, .slice A1 p.2.1.length m1] 108) _ (by omega)).trans z2
    obtain ⟨⟨c20, c21, c22, c23, c24, c25⟩, f20, f21, f22, f23, f24, f25⟩ := cells6 y2
    obtain ⟨⟨c40, c41, c42, c43, c44, c45⟩, f40, f41, f42, f43, f44, f45⟩ := cells6 ((Below.heap_alloc W (.cells #[.slice A0 p.1.length m0, .slice A1 p.2.1.length m1] 108) _ (by omega)).trans z4)
    go_wp2
    rw [← hq]
    exact ract_done (a := actZ) rfl rfl y2 rfl (Kd.V_nil _ _ _ _ _) (hBw.alloc (by omega) _)
  | true =>
    obtain ⟨l0, l1⟩ := fldR_len hp ho
    obtain ⟨n, t, b⟩ := p
    simp only at ho l0 l1 hact hN hT hv0 hv1
    subst ho
    match n, l0 with
    | [x], _ =>
      match t, l1 with
      | [], _ =>
        have hq : actR s.data.toList = (⟨6, 0, 0, x, 0, []⟩, 0) := tup_inj (Option.some.inj hact).symm
        obtain ⟨g0, m0, rfl, _⟩ := hv0 (by simp)
        obtain ⟨A1, m1, rfl⟩ := Kd.V_slice hT
        have x0 := fld_cell (.slice (some ⟨g0, 0, none⟩) 1 m0) (.slice A1 0 m1) (ints_at hN 0 (by simp))
        have e0 := fun o => (fld_f W (.slice (some ⟨g0, 0, none⟩) 1 m0) (.slice A1 0 m1) o).1
        have e1 := fun o => (fld_f W (.slice (some ⟨g0, 0, none⟩) 1 m0) (.slice A1 0 m1) o).2
        have hz := fun o => cells6 ((fld_old (.slice (some ⟨g0, 0, none⟩) 1 m0) (.slice A1 0 m1) o (show w.heap.size < W.heap.size by omega)).trans z2)
        go_wp2
        rw [hq]
        exact ract_done (a := ⟨6, 0, 0, x, 0, []⟩) rfl rfl ((fld_old _ _ _ (by omega)).trans z2) rfl (Kd.V_nil _ _ _ _ _) ((hBw.alloc (by omega) _).alloc (by simp; omega) _)

set_option maxRecDepth 100000 in
set_option maxHeartbeats 2000000 in
theorem ract_fall (s : ByteArray) (hs : s.size ≤ 5000) (w : World) (K : List UInt8) (R : List (List UInt8)) (hw0 : wordsOf s.data.toList = K :: R) (hk : K = wFall) :
    Calls Tryz.prog 17 #[.string s] w (RActP w (actR s.data.toList)) := by
  go_enter Tryz.func17, Tryz.ntmps17
  go_wp2_with fail
  refine (rwords_any s hs _).mono ?_
  rintro e w1 ⟨k, r, g, c, rfl, hw, hg, hgl, ck, hV, hM, hB⟩
  rw [hw0] at hw
  injection hw with hw1 hw2
  subst hk
  go_wp2_with fail
  refine (rform_any k ⟨#[116]⟩ 7 true (by rw [← hw1]; rfl) _).mono ?_
  rintro e w2 ⟨rfl, nd, rfl⟩
  have hV2 := Kd.V_drewN hV nd
  go_wp2_with fail
  refine (rfields_any (k :: r) (some ⟨g, 0, none⟩) c ⟨#[116]⟩ (by decide) hM _ _ hV2).mono ?_
  rintro e W ⟨p, v0, v1, rfl, hp, hN, hT, hv0, hv1, hB2⟩
  rw [show (k :: r).length = r.length + 1 from rfl, show ((k :: r).map fun b => b.data.toList).drop 1 = r.map fun b => b.data.toList from rfl, ← hw2] at hp
  have hact : actTail 7 p = some (tup (actR s.data.toList)) := by
    have hlen : r.length = R.length := by rw [hw2]; simp
    rw [hlen] at hp
    rw [tail_t1 R p hp, actR, hw0]
    rfl
  have hBw : Below w.heap.size w W := (((((Below.refl _ w).alloc (Nat.le_refl _) _).alloc (by simp) _).trans (hB.mono (by simp; omega))).trans (below_drewN (Below.refl _ _) nd)).trans (hB2.mono (by have := hB.size; simp at this ⊢; omega))
  obtain ⟨z2, z4⟩ := two_zero (nd := nd) hB hB2
  have hWs : w.heap.size + 2 ≤ W.heap.size := lt_of_block z4
  cases ho : p.2.2 with
  | false =>
    rw [tail_no ho] at hact
    obtain ⟨A0, m0, rfl⟩ := Kd.V_slice hN
    obtain ⟨A1, m1, rfl⟩ := Kd.V_slice hT
    have hq := tup_inj (Option.some.inj hact)
    have y2 := (Below.heap_alloc W (.cells #[.slice A0 p.1.length m0, .slice A1 p.2.1.length m1] 108) _ (by omega)).trans z2
    obtain ⟨⟨c20, c21, c22, c23, c24, c25⟩, f20, f21, f22, f23, f24, f25⟩ := cells6 y2
    obtain ⟨⟨c40, c41, c42, c43, c44, c45⟩, f40, f41, f42, f43, f44, f45⟩ := cells6 ((Below.heap_alloc W (.cells #[.slice A0 p.1.length m0, .slice A1 p.2.1.length m1] 108) _ (by omega)).trans z4)
    go_wp2
    rw [← hq]
    exact ract_done (a := actZ) rfl rfl y2 rfl (Kd.V_nil _ _ _ _ _) (hBw.alloc (by omega) _)
  | true =>
    obtain ⟨l0, l1⟩ := fldR_len hp ho
    obtain ⟨n, t, b⟩ := p
    simp only at ho l0 l1 hact hN hT hv0 hv1
    subst ho
    match n, l0 with
    | [], _ =>
      match t, l1 with
      | [d], _ =>
        have hq : actR s.data.toList = (⟨7, 0, 0, 0, 0, d⟩, 0) := tup_inj (Option.some.inj hact).symm
        obtain ⟨A0, m0, rfl⟩ := Kd.V_slice hN
        obtain ⟨g1, m1, rfl, _⟩ := hv1 (by simp)
        obtain ⟨tl0, AT0, mt0, tc0, tv0⟩ := texts_at hT 0 (by simp)
        have y0 := fld_cell (.slice A0 0 m0) (.slice (some ⟨g1, 0, none⟩) 1 m1) ⟨tl0, tc0⟩
        have e0 := fun o => (fld_f W (.slice A0 0 m0) (.slice (some ⟨g1, 0, none⟩) 1 m1) o).1
        have e1 := fun o => (fld_f W (.slice A0 0 m0) (.slice (some ⟨g1, 0, none⟩) 1 m1) o).2
        have hz := fun o => cells6 ((fld_old (.slice A0 0 m0) (.slice (some ⟨g1, 0, none⟩) 1 m1) o (show w.heap.size < W.heap.size by omega)).trans z2)
        go_wp2
        rw [hq]
        exact ract_done (a := ⟨7, 0, 0, 0, 0, d⟩) rfl rfl ((fld_old _ _ _ (by omega)).trans z2) rfl (Kd.V_mono (Kd.V_step tv0 (fun k _ hk => fld_old _ _ _ hk)) (fun k hk => by have := hB.size; simp at this hk; omega)) ((hBw.alloc (by omega) _).alloc (by simp; omega) _)

set_option maxRecDepth 100000 in
set_option maxHeartbeats 2000000 in
theorem ract_spoil (s : ByteArray) (hs : s.size ≤ 5000) (w : World) (K : List UInt8) (R : List (List UInt8)) (hw0 : wordsOf s.data.toList = K :: R) (hk : K = wSpoil) :
    Calls Tryz.prog 17 #[.string s] w (RActP w (actR s.data.toList)) := by
  go_enter Tryz.func17, Tryz.ntmps17
  go_wp2_with fail
  refine (rwords_any s hs _).mono ?_
  rintro e w1 ⟨k, r, g, c, rfl, hw, hg, hgl, ck, hV, hM, hB⟩
  rw [hw0] at hw
  injection hw with hw1 hw2
  subst hk
  go_wp2_with fail
  refine (rform_any k ⟨#[110, 110, 98]⟩ 8 true (by rw [← hw1]; rfl) _).mono ?_
  rintro e w2 ⟨rfl, nd, rfl⟩
  have hV2 := Kd.V_drewN hV nd
  go_wp2_with fail
  refine (rfields_any (k :: r) (some ⟨g, 0, none⟩) c ⟨#[110, 110, 98]⟩ (by decide) hM _ _ hV2).mono ?_
  rintro e W ⟨p, v0, v1, rfl, hp, hN, hT, hv0, hv1, hB2⟩
  rw [show (k :: r).length = r.length + 1 from rfl, show ((k :: r).map fun b => b.data.toList).drop 1 = r.map fun b => b.data.toList from rfl, ← hw2] at hp
  have hact : actTail 8 p = some (tup (actR s.data.toList)) := by
    have hlen : r.length = R.length := by rw [hw2]; simp
    rw [hlen] at hp
    rw [tail_nnb R p hp, actR, hw0]
    rfl
  have hBw : Below w.heap.size w W := (((((Below.refl _ w).alloc (Nat.le_refl _) _).alloc (by simp) _).trans (hB.mono (by simp; omega))).trans (below_drewN (Below.refl _ _) nd)).trans (hB2.mono (by have := hB.size; simp at this ⊢; omega))
  obtain ⟨z2, z4⟩ := two_zero (nd := nd) hB hB2
  have hWs : w.heap.size + 2 ≤ W.heap.size := lt_of_block z4
  cases ho : p.2.2 with
  | false =>
    rw [tail_no ho] at hact
    obtain ⟨A0, m0, rfl⟩ := Kd.V_slice hN
    obtain ⟨A1, m1, rfl⟩ := Kd.V_slice hT
    have hq := tup_inj (Option.some.inj hact)
    have y2 := (Below.heap_alloc W (.cells #[.slice A0 p.1.length m0, .slice A1 p.2.1.length m1] 108) _ (by omega)).trans z2
    obtain ⟨⟨c20, c21, c22, c23, c24, c25⟩, f20, f21, f22, f23, f24, f25⟩ := cells6 y2
    obtain ⟨⟨c40, c41, c42, c43, c44, c45⟩, f40, f41, f42, f43, f44, f45⟩ := cells6 ((Below.heap_alloc W (.cells #[.slice A0 p.1.length m0, .slice A1 p.2.1.length m1] 108) _ (by omega)).trans z4)
    go_wp2
    rw [← hq]
    exact ract_done (a := actZ) rfl rfl y2 rfl (Kd.V_nil _ _ _ _ _) (hBw.alloc (by omega) _)
  | true =>
    obtain ⟨l0, l1⟩ := fldR_len hp ho
    obtain ⟨n, t, b⟩ := p
    simp only at ho l0 l1 hact hN hT hv0 hv1
    subst ho
    match n, l0 with
    | [x, y, z], _ =>
      match t, l1 with
      | [], _ =>
        have hq : actR s.data.toList = (⟨8, z % 256, x, y, 0, []⟩, 0) := tup_inj (Option.some.inj hact).symm
        obtain ⟨g0, m0, rfl, _⟩ := hv0 (by simp)
        obtain ⟨A1, m1, rfl⟩ := Kd.V_slice hT
        have x0 := fld_cell (.slice (some ⟨g0, 0, none⟩) 3 m0) (.slice A1 0 m1) (ints_at hN 0 (by simp))
        have x1 := fld_cell (.slice (some ⟨g0, 0, none⟩) 3 m0) (.slice A1 0 m1) (ints_at hN 1 (by simp))
        have x2 := fld_cell (.slice (some ⟨g0, 0, none⟩) 3 m0) (.slice A1 0 m1) (ints_at hN 2 (by simp))
        have e0 := fun o => (fld_f W (.slice (some ⟨g0, 0, none⟩) 3 m0) (.slice A1 0 m1) o).1
        have e1 := fun o => (fld_f W (.slice (some ⟨g0, 0, none⟩) 3 m0) (.slice A1 0 m1) o).2
        have hz := fun o => cells6 ((fld_old (.slice (some ⟨g0, 0, none⟩) 3 m0) (.slice A1 0 m1) o (show w.heap.size < W.heap.size by omega)).trans z2)
        go_wp2
        rw [hq]
        exact ract_done (a := ⟨8, z % 256, x, y, 0, []⟩) rfl rfl ((fld_old _ _ _ (by omega)).trans z2) rfl (Kd.V_nil _ _ _ _ _) ((hBw.alloc (by omega) _).alloc (by simp; omega) _)

set_option maxRecDepth 100000 in
set_option maxHeartbeats 2000000 in
theorem ract_image (s : ByteArray) (hs : s.size ≤ 5000) (w : World) (K : List UInt8) (R : List (List UInt8)) (hw0 : wordsOf s.data.toList = K :: R) (hk : K = wImage) :
    Calls Tryz.prog 17 #[.string s] w (RActP w (actR s.data.toList)) := by
  go_enter Tryz.func17, Tryz.ntmps17
  go_wp2_with fail
  refine (rwords_any s hs _).mono ?_
  rintro e w1 ⟨k, r, g, c, rfl, hw, hg, hgl, ck, hV, hM, hB⟩
  rw [hw0] at hw
  injection hw with hw1 hw2
  subst hk
  go_wp2_with fail
  refine (rform_any k ⟨#[]⟩ 9 true (by rw [← hw1]; rfl) _).mono ?_
  rintro e w2 ⟨rfl, nd, rfl⟩
  have hV2 := Kd.V_drewN hV nd
  go_wp2_with fail
  refine (rfields_any (k :: r) (some ⟨g, 0, none⟩) c ⟨#[]⟩ (by decide) hM _ _ hV2).mono ?_
  rintro e W ⟨p, v0, v1, rfl, hp, hN, hT, hv0, hv1, hB2⟩
  rw [show (k :: r).length = r.length + 1 from rfl, show ((k :: r).map fun b => b.data.toList).drop 1 = r.map fun b => b.data.toList from rfl, ← hw2] at hp
  have hact : actTail 9 p = some (tup (actR s.data.toList)) := by
    have hlen : r.length = R.length := by rw [hw2]; simp
    rw [hlen] at hp
    rw [tail_bare 9 (by decide) R p hp, actR, hw0]
    rfl
  have hBw : Below w.heap.size w W := (((((Below.refl _ w).alloc (Nat.le_refl _) _).alloc (by simp) _).trans (hB.mono (by simp; omega))).trans (below_drewN (Below.refl _ _) nd)).trans (hB2.mono (by have := hB.size; simp at this ⊢; omega))
  obtain ⟨z2, z4⟩ := two_zero (nd := nd) hB hB2
  have hWs : w.heap.size + 2 ≤ W.heap.size := lt_of_block z4
  cases ho : p.2.2 with
  | false =>
    rw [tail_no ho] at hact
    obtain ⟨A0, m0, rfl⟩ := Kd.V_slice hN
    obtain ⟨A1, m1, rfl⟩ := Kd.V_slice hT
    have hq := tup_inj (Option.some.inj hact)
    have y2 := (Below.heap_alloc W (.cells #[.slice A0 p.1.length m0, .slice A1 p.2.1.length m1] 108) _ (by omega)).trans z2
    obtain ⟨⟨c20, c21, c22, c23, c24, c25⟩, f20, f21, f22, f23, f24, f25⟩ := cells6 y2
    obtain ⟨⟨c40, c41, c42, c43, c44, c45⟩, f40, f41, f42, f43, f44, f45⟩ := cells6 ((Below.heap_alloc W (.cells #[.slice A0 p.1.length m0, .slice A1 p.2.1.length m1] 108) _ (by omega)).trans z4)
    go_wp2
    rw [← hq]
    exact ract_done (a := actZ) rfl rfl y2 rfl (Kd.V_nil _ _ _ _ _) (hBw.alloc (by omega) _)
  | true =>
    obtain ⟨l0, l1⟩ := fldR_len hp ho
    obtain ⟨n, t, b⟩ := p
    simp only at ho l0 l1 hact hN hT hv0 hv1
    subst ho
    match n, l0 with
    | [], _ =>
      match t, l1 with
      | [], _ =>
        have hq : actR s.data.toList = (⟨9, 0, 0, 0, 0, []⟩, 0) := tup_inj (Option.some.inj hact).symm
        obtain ⟨A0, m0, rfl⟩ := Kd.V_slice hN
        obtain ⟨A1, m1, rfl⟩ := Kd.V_slice hT
        have e0 := fun o => (fld_f W (.slice A0 0 m0) (.slice A1 0 m1) o).1
        have e1 := fun o => (fld_f W (.slice A0 0 m0) (.slice A1 0 m1) o).2
        have hz := fun o => cells6 ((fld_old (.slice A0 0 m0) (.slice A1 0 m1) o (show w.heap.size < W.heap.size by omega)).trans z2)
        go_wp2
        rw [hq]
        exact ract_done (a := ⟨9, 0, 0, 0, 0, []⟩) rfl rfl ((fld_old _ _ _ (by omega)).trans z2) rfl (Kd.V_nil _ _ _ _ _) ((hBw.alloc (by omega) _).alloc (by simp; omega) _)

set_option maxRecDepth 100000 in
set_option maxHeartbeats 2000000 in
theorem ract_status (s : ByteArray) (hs : s.size ≤ 5000) (w : World) (K : List UInt8) (R : List (List UInt8)) (hw0 : wordsOf s.data.toList = K :: R) (hk : K = wStatus) :
    Calls Tryz.prog 17 #[.string s] w (RActP w (actR s.data.toList)) := by
  go_enter Tryz.func17, Tryz.ntmps17
  go_wp2_with fail
  refine (rwords_any s hs _).mono ?_
  rintro e w1 ⟨k, r, g, c, rfl, hw, hg, hgl, ck, hV, hM, hB⟩
  rw [hw0] at hw
  injection hw with hw1 hw2
  subst hk
  go_wp2_with fail
  refine (rform_any k ⟨#[]⟩ 10 true (by rw [← hw1]; rfl) _).mono ?_
  rintro e w2 ⟨rfl, nd, rfl⟩
  have hV2 := Kd.V_drewN hV nd
  go_wp2_with fail
  refine (rfields_any (k :: r) (some ⟨g, 0, none⟩) c ⟨#[]⟩ (by decide) hM _ _ hV2).mono ?_
  rintro e W ⟨p, v0, v1, rfl, hp, hN, hT, hv0, hv1, hB2⟩
  rw [show (k :: r).length = r.length + 1 from rfl, show ((k :: r).map fun b => b.data.toList).drop 1 = r.map fun b => b.data.toList from rfl, ← hw2] at hp
  have hact : actTail 10 p = some (tup (actR s.data.toList)) := by
    have hlen : r.length = R.length := by rw [hw2]; simp
    rw [hlen] at hp
    rw [tail_bare 10 (by decide) R p hp, actR, hw0]
    rfl
  have hBw : Below w.heap.size w W := (((((Below.refl _ w).alloc (Nat.le_refl _) _).alloc (by simp) _).trans (hB.mono (by simp; omega))).trans (below_drewN (Below.refl _ _) nd)).trans (hB2.mono (by have := hB.size; simp at this ⊢; omega))
  obtain ⟨z2, z4⟩ := two_zero (nd := nd) hB hB2
  have hWs : w.heap.size + 2 ≤ W.heap.size := lt_of_block z4
  cases ho : p.2.2 with
  | false =>
    rw [tail_no ho] at hact
    obtain ⟨A0, m0, rfl⟩ := Kd.V_slice hN
    obtain ⟨A1, m1, rfl⟩ := Kd.V_slice hT
    have hq := tup_inj (Option.some.inj hact)
    have y2 := (Below.heap_alloc W (.cells #[.slice A0 p.1.length m0, .slice A1 p.2.1.length m1] 108) _ (by omega)).trans z2
    obtain ⟨⟨c20, c21, c22, c23, c24, c25⟩, f20, f21, f22, f23, f24, f25⟩ := cells6 y2
    obtain ⟨⟨c40, c41, c42, c43, c44, c45⟩, f40, f41, f42, f43, f44, f45⟩ := cells6 ((Below.heap_alloc W (.cells #[.slice A0 p.1.length m0, .slice A1 p.2.1.length m1] 108) _ (by omega)).trans z4)
    go_wp2
    rw [← hq]
    exact ract_done (a := actZ) rfl rfl y2 rfl (Kd.V_nil _ _ _ _ _) (hBw.alloc (by omega) _)
  | true =>
    obtain ⟨l0, l1⟩ := fldR_len hp ho
    obtain ⟨n, t, b⟩ := p
    simp only at ho l0 l1 hact hN hT hv0 hv1
    subst ho
    match n, l0 with
    | [], _ =>
      match t, l1 with
      | [], _ =>
        have hq : actR s.data.toList = (⟨10, 0, 0, 0, 0, []⟩, 0) := tup_inj (Option.some.inj hact).symm
        obtain ⟨A0, m0, rfl⟩ := Kd.V_slice hN
        obtain ⟨A1, m1, rfl⟩ := Kd.V_slice hT
        have e0 := fun o => (fld_f W (.slice A0 0 m0) (.slice A1 0 m1) o).1
        have e1 := fun o => (fld_f W (.slice A0 0 m0) (.slice A1 0 m1) o).2
        have hz := fun o => cells6 ((fld_old (.slice A0 0 m0) (.slice A1 0 m1) o (show w.heap.size < W.heap.size by omega)).trans z2)
        go_wp2
        rw [hq]
        exact ract_done (a := ⟨10, 0, 0, 0, 0, []⟩) rfl rfl ((fld_old _ _ _ (by omega)).trans z2) rfl (Kd.V_nil _ _ _ _ _) ((hBw.alloc (by omega) _).alloc (by simp; omega) _)
end Go.Proofs.YtccnmbfigpjkaaaGreatDoor
