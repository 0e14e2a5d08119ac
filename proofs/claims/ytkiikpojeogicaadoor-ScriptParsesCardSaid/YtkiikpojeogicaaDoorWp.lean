/-
  DERIVED. 'Parse' of script: what a text of at most 5000 bytes tells.
-/
import Derived.Test.YtkiikpojeogicaaDoorWo
import Derived.BigRegion
namespace Go.Proofs.YtkiikpojeogicaaDoor
open Go.RowKit Go.Sort Go.Proofs.YtkiikpojeogicaaDoorW.PrintWords
open Scr

theorem cells3 {W : World} {q : Nat} {x0 x1 x2 : Value} {t : TypeId} (h : W.heap[q]? = some (.cells #[x0, x1, x2] t (0, 0))) :
    (W.cell? ⟨q, 0, none⟩ = some x0 ∧ W.cell? ⟨q, 1, none⟩ = some x1 ∧ W.cell? ⟨q, 2, none⟩ = some x2) ∧
    (W.frozen? ⟨q, 0, none⟩ = false ∧ W.frozen? ⟨q, 1, none⟩ = false ∧ W.frozen? ⟨q, 2, none⟩ = false) := by
  simp [World.cell?, World.frozen?, h]

/-- Three cells are stored. -/
def Store3 (q : Nat) (W Wf : World) (x y z : Value) (t : TypeId) : Prop :=
  Wf.heap[q]? = some (.cells #[x, y, z] t (0, 0)) ∧ Wf.heap.size = W.heap.size ∧ Wf.os = W.os ∧ Wf.tape = W.tape ∧ Wf.output = W.output ∧ ∀ k, k ≠ q → Wf.heap[k]? = W.heap[k]?
theorem store3 {W : World} {q : Nat} {x0 x1 x2 : Value} {t : TypeId} (h : W.heap[q]? = some (.cells #[x0, x1, x2] t (0, 0))) (x y z : Value) :
    Store3 q W (((W.setCell ⟨q, 0, none⟩ x).setCell ⟨q, 1, none⟩ y).setCell ⟨q, 2, none⟩ z).drew x y z t :=
  ⟨setCell_heap (setCell_heap (setCell_heap h)), by simp [World.setCell, World.drew], rfl, rfl, rfl, fun k hk => (Below.heap_setCell _ _ _ _ hk).trans ((Below.heap_setCell _ _ _ _ hk).trans (Below.heap_setCell _ _ _ _ hk))⟩
theorem below_store {w W Wf : World} {x y z : Value} {t : TypeId} (h : Below w.heap.size w W) (hF : Store3 w.heap.size W Wf x y z t) : Below w.heap.size w Wf :=
  ⟨hF.2.2.1.trans h.os, hF.2.2.2.1.trans h.tape, hF.2.2.2.2.1.trans h.output, by have := h.size; have := hF.2.1; omega, fun k hk => (hF.2.2.2.2.2 k (by omega)).trans (h.block k hk)⟩

/-- What 'Parse' hands back. -/
def SParseP (w : World) (text : List UInt8) (e : Ending) (W : World) : Prop :=
  Below w.heap.size w W ∧ match parseOf text with
    | .ok r => ∃ base rb sv iv av vs, e = .returned (.tuple #[.agg #[.int .i64 r.x.sector, .int .i64 r.x.block, .int .i64 r.x.slot], sv, iv, .int .u64 r.x.version, av, .int .i64 0, .int .i64 0]) ∧ Rd base rb W r 0 sv iv av vs ∧ w.heap.size ≤ rb
    | .bad n k => e = .returned (.tuple #[.agg #[.int .i64 0, .int .i64 0, .int .i64 0], .slice none 0 0, .slice none 0 0, .int .u64 0, .slice none 0 0, .int .i64 n, .int .i64 k]) ∧ ¬ k = 0

theorem runLines_bad : ∀ (ls : List (List UInt8)) (r : RdD) (n m : Nat) (e : Int), runLines r n ls = .bad m e → EK e
  | [], r, n, m, e, h => by cases h
  | l :: ls, r, n, m, e, h => by
    unfold runLines at h
    split at h
    · rename_i ho; cases h; exact oneOf_bad ho
    · exact runLines_bad ls _ _ _ _ h
theorem parseOf_bad {text : List UInt8} {n : Nat} {e : Int} (h : parseOf text = .bad n e) : ¬ e = 0 := by
  unfold parseOf at h
  split at h
  · cases h; decide
  · split at h
    · rename_i hr; cases h; exact (runLines_bad _ _ _ _ _ hr).ne
    · split at h
      · cases h
      · cases h; decide

set_option maxRecDepth 100000 in
set_option maxHeartbeats 2000000 in
theorem sparse_any (text : ByteArray) (w : World) (hG : Glb w) (hrb : 8 ≤ w.heap.size) (hs : text.size ≤ 5000) :
    Calls Tryd.prog 7 #[.string text] w (SParseP w text.data.toList) := by
  have HS := Lib.hid hs
  clear hs
  go_enter Tryd.func7, Tryd.ntmps7
  go_wp2_with fail
  have hG1 : Glb (w.alloc (.cells #[.int .i64 0, .int .i64 0, .int .i64 0] 24)) := hG.below ((Below.refl w.heap.size w).alloc (Nat.le_refl _) _) hrb
  refine (parse_any text _ hG1 (by rw [World.size_alloc]; omega) HS.out).mono ?_
  rintro e W ⟨rfl, hB, hm⟩
  rw [World.size_alloc] at hB hm
  have hblk : W.heap[w.heap.size]? = some (.cells #[.int .i64 0, .int .i64 0, .int .i64 0] 24 (0, 0)) := (hB.block _ (by omega)).trans (World.alloc_heap_new w _)
  have hB0 : Below w.heap.size w W := ((Below.refl w.heap.size w).alloc (Nat.le_refl _) _).trans (hB.mono (by omega))
  obtain ⟨⟨d0, d1, d2⟩, e0, e1, e2⟩ := cells3 hblk
  unfold SParseP
  cases hp : parseOf text.data.toList with
  | ok r =>
    rw [hp] at hm
    obtain ⟨base, sv, iv, av, vs, hR⟩ := hm
    obtain ⟨⟨c0, c1, c2, c3, c4, c5, c6, c7, c8, c9⟩, f0, f1, f2, f3, f4, f5, f6, f7, f8, f9⟩ := cells10 hR.blk
    rw [World.size_alloc]
    go_wp2
    go_region
    have hF := store3 hblk (.int .i64 r.x.sector) (.int .i64 r.x.block) (.int .i64 r.x.slot)
    generalize hW : (((W.setCell ⟨w.heap.size, 0, none⟩ (.int .i64 r.x.sector)).setCell ⟨w.heap.size, 1, none⟩ (.int .i64 r.x.block)).setCell ⟨w.heap.size, 2, none⟩ (.int .i64 r.x.slot)).drew = Wf at hF ⊢
    obtain ⟨hb, hs3, ho, ht, hu, hk⟩ := hF
    clear d0 d1 d2 e0 e1 e2 hW
    obtain ⟨⟨d0, d1, d2⟩, e0, e1, e2⟩ := cells3 hb
    have hRf : Rd base (w.heap.size + 1 + 1) Wf r 0 sv iv av vs := hR.step (by omega) (hk _ (by omega)) (fun k h1 _ => hk k (by have := hR.lt; omega))
    go_wp2
    refine bodyPost_ret (v := .tuple #[.agg #[.int .i64 r.x.sector, .int .i64 r.x.block, .int .i64 r.x.slot], sv, iv, .int .u64 r.x.version, av, .int .i64 0, .int .i64 0]) (by simp [results, Tryd.results7, go_sem, d0, d1, d2]) rfl ?_
    refine ⟨below_store hB0 ⟨hb, hs3, ho, ht, hu, hk⟩, ?_⟩
    rw [hp]
    exact ⟨base, _, sv, iv, av, vs, rfl, hRf, by omega⟩
  | bad n k =>
    rw [hp] at hm
    have hk := parseOf_bad hp
    obtain ⟨cs, hb, hcs, h8, h9⟩ := hm
    rw [World.size_alloc]
    have c8 : W.cell? ⟨w.heap.size + 1 + 1, 8, none⟩ = some (.int .i64 n) := by simp [World.cell?, hb, h8]
    have c9 : W.cell? ⟨w.heap.size + 1 + 1, 9, none⟩ = some (.int .i64 k) := by simp [World.cell?, hb, h9]
    go_wp2
    go_region
    have hF := store3 hblk (.int .i64 0) (.int .i64 0) (.int .i64 0)
    generalize hW : (((W.setCell ⟨w.heap.size, 0, none⟩ (.int .i64 0)).setCell ⟨w.heap.size, 1, none⟩ (.int .i64 0)).setCell ⟨w.heap.size, 2, none⟩ (.int .i64 0)).drew = Wf at hF ⊢
    obtain ⟨hb, hs3, ho, ht, hu, hk⟩ := hF
    clear d0 d1 d2 e0 e1 e2 hW
    obtain ⟨⟨d0, d1, d2⟩, e0, e1, e2⟩ := cells3 hb
    go_wp2
    refine bodyPost_ret (v := .tuple #[.agg #[.int .i64 0, .int .i64 0, .int .i64 0], .slice none 0 0, .slice none 0 0, .int .u64 0, .slice none 0 0, .int .i64 n, .int .i64 k]) (by simp [results, Tryd.results7, go_sem, d0, d1, d2]) rfl ?_
    refine ⟨below_store hB0 ⟨hb, hs3, ho, ht, hu, hk⟩, ?_⟩
    rw [hp]
    exact ⟨rfl, parseOf_bad hp⟩
end Go.Proofs.YtkiikpojeogicaaDoor
