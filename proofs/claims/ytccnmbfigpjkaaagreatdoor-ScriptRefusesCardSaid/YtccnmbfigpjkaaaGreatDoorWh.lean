/-
  DERIVED. 'read': the act of a line, for every line of at most 2^31 bytes.
-/
import Derived.Test.YtccnmbfigpjkaaaGreatDoorWg
import Derived.Lib.SplitLaws
namespace Go.Proofs.YtccnmbfigpjkaaaGreatDoor
open Go.RowKit Go.Sort Go.Proofs.YtccnmbfigpjkaaaGreatDoorW.PrintWords
open Scr

theorem splitK_short (sep : List UInt8) : ∀ (k : Nat) (s : List UInt8), ∀ x ∈ Lib.splitK sep 0 k s, x.length ≤ s.length
  | 0, s, x, hx => by simp [Lib.splitK] at hx; subst hx; exact Nat.le_refl _
  | k + 1, s, x, hx => by
    unfold Lib.splitK at hx
    split at hx
    · simp at hx; subst hx; exact Nat.le_refl _
    · rcases List.mem_cons.1 hx with rfl | hx
      · rw [List.length_take]; omega
      · have := splitK_short sep k _ x hx
        rw [List.length_drop] at this
        omega

/-- The words of a line, as strings. -/
theorem split_words (s : ByteArray) (hs : s.size ≤ 2147483648) : ∃ ss, lst ss = wordsOf s.data.toList ∧ ss.length = Lib.countB s ⟨#[32]⟩ + 1 ∧ Short ss ∧ Lib.splitB ⟨#[32]⟩ 0 (Lib.countB s ⟨#[32]⟩) s = ss ∧ ss.length ≤ 2147483649 := by
  have hc := Lib.countB_le ⟨#[32]⟩ (by decide) s.size s (Nat.le_refl _)
  have hl := Lib.splitB_all ⟨#[32]⟩ (by decide) 0 _ s rfl
  have hd := Lib.splitB_data ⟨#[32]⟩ 0 (Lib.countB s ⟨#[32]⟩) s
  refine ⟨_, hd, hl, fun t ht => ?_, rfl, by omega⟩
  have h1 : t.data.toList ∈ Lib.splitK (⟨#[32]⟩ : ByteArray).data.toList 0 (Lib.countB s ⟨#[32]⟩) s.data.toList := by rw [← hd]; exact List.mem_map_of_mem ht
  have h2 := splitK_short _ _ _ _ h1
  rw [size_list, size_list] at h2
  omega

theorem split_any (s : ByteArray) (w : World) (hG : Glb w) (hs : s.size ≤ 2147483648) :
    Calls Tryz.prog 94 #[.string s, .string ⟨#[32]⟩] w fun e w' => ∃ ss, lst ss = wordsOf s.data.toList ∧ Short ss ∧ ss.length ≤ 2147483649 ∧
      e = .returned (.slice (some ⟨w.heap.size, 0, none⟩) ss.length ss.length) ∧ w' = w.alloc (.cells (ss.map Value.string).toArray 9) := by
  obtain ⟨m, hm⟩ := hG.maxlen
  obtain ⟨ss, h1, h2, h3, h4, h5⟩ := split_words s hs
  refine (Tryz.strings_Split s ⟨#[32]⟩ m w (by omega) hm (by decide)).mono ?_
  rintro e w' ⟨he, hw⟩
  rw [← h2] at he
  rw [h4] at hw
  exact ⟨ss, h1, h3, h5, he, hw⟩

/-- The words lie ready in a variable of their own (n: how many blocks there were). -/
abbrev ready (w : World) (n : Nat) (ss : List ByteArray) : World := (w.alloc (.cells (ss.map Value.string).toArray 9)).alloc (.cells #[.slice (some ⟨n, 0, none⟩) ss.length ss.length] 177)
section
variable {w : World} {n : Nat} {ss : List ByteArray}
theorem ready_below (w : World) (n : Nat) (ss : List ByteArray) : Below w.heap.size w (ready w n ss) := ((Below.refl _ w).alloc (Nat.le_refl _) _).alloc (by simp) _
theorem ready_size (w : World) (n : Nat) (ss : List ByteArray) : (ready w n ss).heap.size = w.heap.size + 2 := by simp [ready]
theorem ready_var (hn : w.heap.size = n) (ss : List ByteArray) : Var (n + 1) (ready w n ss) (.slice (some ⟨n, 0, none⟩) ss.length ss.length) := by
  have := heap_new (w.alloc (.cells (ss.map Value.string).toArray 9)) (.cells #[.slice (some ⟨n, 0, none⟩) ss.length ss.length] 177)
  rwa [World.size_alloc, hn] at this
theorem ready_ws (hn : w.heap.size = n) (ss : List ByteArray) (h : ss.length ≤ 2147483649) : Ws (n + 1) n (ready w n ss) (.slice (some ⟨n, 0, none⟩) ss.length ss.length) ss := by
  subst hn
  refine ⟨by omega, ⟨by rw [ready_size]; omega, by omega⟩, _, _, rfl, Nat.le_refl _, fun _ => ⟨0, rfl, fun i hi => ?_⟩⟩
  have hb : (ready w w.heap.size ss).heap[w.heap.size]? = some (.cells (ss.map Value.string).toArray 9 (0, 0)) :=
    (Below.heap_alloc _ _ _ (by simp)).trans (heap_new w _)
  simp [World.cell?, hb, hi]
end

/-- Six cells, by the block. -/
theorem cells6 {W : World} {q : Nat} {x0 x1 x2 x3 x4 x5 : Value} {t : TypeId} (h : W.heap[q]? = some (.cells #[x0, x1, x2, x3, x4, x5] t (0, 0))) :
    (W.cell? ⟨q, 0, none⟩ = some x0 ∧ W.cell? ⟨q, 1, none⟩ = some x1 ∧ W.cell? ⟨q, 2, none⟩ = some x2 ∧ W.cell? ⟨q, 3, none⟩ = some x3 ∧ W.cell? ⟨q, 4, none⟩ = some x4 ∧ W.cell? ⟨q, 5, none⟩ = some x5) ∧
    (W.frozen? ⟨q, 0, none⟩ = false ∧ W.frozen? ⟨q, 1, none⟩ = false ∧ W.frozen? ⟨q, 2, none⟩ = false ∧ W.frozen? ⟨q, 3, none⟩ = false ∧ W.frozen? ⟨q, 4, none⟩ = false ∧ W.frozen? ⟨q, 5, none⟩ = false) := by
  simp [World.cell?, World.frozen?, h]
theorem setCell_heap {W : World} {q o : Nat} {cs : Array Value} {t : TypeId} {u : Value} (h : W.heap[q]? = some (.cells cs t (0, 0))) : (W.setCell ⟨q, o, none⟩ u).heap[q]? = some (.cells (cs.setIfInBounds o u) t (0, 0)) := by
  have hlt := lt_of_block h
  have h' : W.heap[q] = .cells cs t (0, 0) := by simpa [Array.getElem?_eq_getElem hlt] using h
  show (W.heap.modify q _)[q]? = _
  rw [Array.getElem?_eq_getElem (by simpa using hlt), Array.getElem_modify_self, h']
  rfl
theorem six_heap {W : World} {q : Nat} {x0 x1 x2 x3 x4 x5 : Value} {t : TypeId} (a : ActD) (u : Value) (h : W.heap[q]? = some (.cells #[x0, x1, x2, x3, x4, x5] t (0, 0))) :
    (six W q a u).heap[q]? = some (.cells #[.int .u8 a.kind, .int .u8 a.mode, .int .i64 a.p, .int .i64 a.n, .int .u64 a.version, u] t (0, 0)) := by
  have := setCell_heap (o := 5) (u := u) (setCell_heap (o := 4) (u := .int .u64 a.version) (setCell_heap (o := 3) (u := .int .i64 a.n) (setCell_heap (o := 2) (u := .int .i64 a.p) (setCell_heap (o := 1) (u := .int .u8 a.mode) (setCell_heap (o := 0) (u := .int .u8 a.kind) h)))))
  simpa using this
theorem six_other {W : World} {q k : Nat} (a : ActD) (u : Value) (h : k ≠ q) : (six W q a u).heap[k]? = W.heap[k]? := by
  simp only [six]
  rw [Below.heap_setCell _ _ _ _ h, Below.heap_setCell _ _ _ _ h, Below.heap_setCell _ _ _ _ h, Below.heap_setCell _ _ _ _ h, Below.heap_setCell _ _ _ _ h, Below.heap_setCell _ _ _ _ h]
theorem six_size (W : World) (q : Nat) (a : ActD) (u : Value) : (six W q a u).heap.size = W.heap.size := by simp [six, World.setCell]
theorem six_below {W : World} {q N : Nat} (a : ActD) (u : Value) (h : N ≤ q) : Below N W (six W q a u) :=
  ((((((Below.refl N W).setCell (p := ⟨q, 0, none⟩) h _).setCell (p := ⟨q, 1, none⟩) h _).setCell (p := ⟨q, 2, none⟩) h _).setCell (p := ⟨q, 3, none⟩) h _).setCell (p := ⟨q, 4, none⟩) h _).setCell (p := ⟨q, 5, none⟩) h _

/-- What 'read' hands back. -/
def ReadP (w : World) (r : ActD × Int) (E : Ending) (w' : World) : Prop :=
  ∃ v, E = .returned (.tuple #[actV r.1 v, .int .i64 r.2]) ∧ BytesOf w w' v r.1.data ∧ Below w.heap.size w w'

/-- Where 'read' stands ahead of the words. -/
abbrev laid2 (w : World) : World := (w.alloc (.cells #[.int .u8 0, .int .u8 0, .int .i64 0, .int .i64 0, .int .u64 0, .slice none 0 0] 49)).alloc (.cells #[.int .i64 0] 30)
theorem laid2_size (w : World) : (laid2 w).heap.size = w.heap.size + 2 := by simp [laid2]
theorem laid2_below (w : World) : Below w.heap.size w (laid2 w) := ((Below.refl _ w).alloc (Nat.le_refl _) _).alloc (by simp) _
theorem laid2_a (w : World) : (laid2 w).heap[w.heap.size]? = some (.cells #[.int .u8 0, .int .u8 0, .int .i64 0, .int .i64 0, .int .u64 0, .slice none 0 0] 49 (0, 0)) :=
  (Below.heap_alloc _ _ _ (by simp)).trans (heap_new w _)
theorem laid2_e (w : World) : (laid2 w).heap[w.heap.size + 1]? = some (.cells #[.int .i64 0] 30 (0, 0)) := by
  have := heap_new (w.alloc (.cells #[.int .u8 0, .int .u8 0, .int .i64 0, .int .i64 0, .int .u64 0, .slice none 0 0] 49)) (.cells #[.int .i64 0] 30)
  rwa [World.size_alloc] at this

theorem laid_of {w w1 : World} {ss : List ByteArray} {v1 : Value} (hu : Upd (w.heap.size + 2 + 1) (ready (laid2 w) (w.heap.size + 2) ss) w1 v1) :
    w1.heap[w.heap.size]? = some (.cells #[.int .u8 0, .int .u8 0, .int .i64 0, .int .i64 0, .int .u64 0, .slice none 0 0] 49 (0, 0)) ∧ w1.heap[w.heap.size + 1]? = some (.cells #[.int .i64 0] 30 (0, 0)) ∧ w.heap.size + 2 + 1 < w1.heap.size ∧ Below w.heap.size w w1 := by
  have h2 := laid2_size w
  have h3 := ready_size (laid2 w) (w.heap.size + 2) ss
  have hb := ready_below (laid2 w) (w.heap.size + 2) ss
  refine ⟨?_, ?_, ?_, ?_⟩
  · rw [hu.block _ (by omega) (by omega), hb.block _ (by omega)]; exact laid2_a w
  · rw [hu.block _ (by omega) (by omega), hb.block _ (by omega)]; exact laid2_e w
  · have := hu.size; omega
  · exact ((laid2_below w).trans (hb.mono (by omega))).trans (hu.down (by omega) (by omega))

set_option maxRecDepth 100000 in
theorem read_bad (s : ByteArray) (w : World) (hG : Glb w) (hs : s.size ≤ 2147483648) (n : Int) (h : actOf (wordsOf s.data.toList) = .bad n) :
    Calls Tryz.prog 54 #[.string s] w (ReadP w (actZ, n)) := by
  have HH := Lib.hid h
  clear h
  have hG2 : Glb (laid2 w) := hG.below (laid2_below w) hG.size
  have hsz := laid2_size w
  go_enter_defers Tryz.func54, Tryz.ntmps54
  go_wp2_with fail
  refine (split_any s _ hG2 hs).mono ?_
  rintro e w1 ⟨ss, hl, hz, hn, rfl, rfl⟩
  have HL := Lib.hid hl
  clear hl
  have hv := ready_var hsz ss
  have hq := ready_ws hsz ss hn
  have hG3 : Glb (ready (laid2 w) (w.heap.size + 2) ss) := hG2.below (ready_below _ _ _) hG2.size
  have hgs := hG.size
  go_wp2_with fail
  refine (act_any _ _ ss _ hG3 (by omega) hv hq hz).mono ?_
  intro e w2 hp
  rw [HL.out, HH.out] at hp
  obtain ⟨rfl, v2, hu⟩ := hp
  obtain ⟨ha, he, hlt, hb⟩ := laid_of hu
  refine leaves_cons (f := 93) (args := #[.pointer (some ⟨w.heap.size + 1, 0, none⟩)]) (by simp) (by simp [go_sem]) ?_
  refine (caught_panicking (w.heap.size + 1) 0 n _ (by omega) (cell_of_one he) (free_of_one he)).mono ?_
  rintro e u' w' ⟨rfl, rfl, rfl⟩
  have ha' : ((w2.setCell ⟨w.heap.size + 1, 0, none⟩ (.int .i64 n)).alloc (.cells #[.int .i64 n] 180)).heap[w.heap.size]? = some (.cells #[.int .u8 0, .int .u8 0, .int .i64 0, .int .i64 0, .int .u64 0, .slice none 0 0] 49 (0, 0)) :=
    (Below.heap_alloc _ _ _ (by simp [World.setCell]; omega)).trans ((Below.heap_setCell _ _ _ _ (by simp)).trans ha)
  have he' : ((w2.setCell ⟨w.heap.size + 1, 0, none⟩ (.int .i64 n)).alloc (.cells #[.int .i64 n] 180)).heap[w.heap.size + 1]? = some (.cells #[.int .i64 n] 30 (0, 0)) :=
    (Below.heap_alloc _ _ _ (by simp [World.setCell]; omega)).trans (one_setCell he)
  have hb' : Below w.heap.size w ((w2.setCell ⟨w.heap.size + 1, 0, none⟩ (.int .i64 n)).alloc (.cells #[.int .i64 n] 180)) := (hb.setCell (p := ⟨w.heap.size + 1, 0, none⟩) (by simp) _).alloc (by simp [World.setCell]; omega) _
  generalize (w2.setCell ⟨w.heap.size + 1, 0, none⟩ (.int .i64 n)).alloc (.cells #[.int .i64 n] 180) = W at ha' he' hb' ⊢
  obtain ⟨⟨c0, c1, c2, c3, c4, c5⟩, _⟩ := cells6 ha'
  have d0 := cell_of_one he'
  simp [Leaves, settle, results, Tryz.results54, go_sem, c0, c1, c2, c3, c4, c5, d0]
  exact ⟨_, rfl, Kd.V_nil _ _ _ _ _, hb'⟩

theorem V_upd {α : Type} {d : Kd α} {e base B : Nat} {ok : Nat → Prop} {W W1 : World} {v v1 : Value} {xs : List α} (h : Kd.V d e W base ok v xs) (hu : Upd B W W1 v1) (hok : ∀ k, ok k → k ≠ B) : Kd.V d e W1 base ok v xs :=
  Kd.V_step h (fun k ho hlt => hu.block k hlt (hok k ho))

/-- The act is laid in the result's cells. -/
theorem laid_act {w w2 : World} {ss rest : List ByteArray} {v2 u : Value} {a : ActD} (hu : Upd (w.heap.size + 2 + 1) (ready (laid2 w) (w.heap.size + 2) ss) w2 v2) (hq : Ws (w.heap.size + 2 + 1) (w.heap.size + 2) w2 v2 rest)
    (hd : BytesOf (ready (laid2 w) (w.heap.size + 2) ss) w2 u a.data) :
    Var (w.heap.size + 2 + 1) (six w2 w.heap.size a u) v2 ∧ Ws (w.heap.size + 2 + 1) (w.heap.size + 2) (six w2 w.heap.size a u) v2 rest ∧
    (six w2 w.heap.size a u).heap[w.heap.size]? = some (.cells #[.int .u8 a.kind, .int .u8 a.mode, .int .i64 a.p, .int .i64 a.n, .int .u64 a.version, u] 49 (0, 0)) ∧
    (six w2 w.heap.size a u).heap[w.heap.size + 1]? = some (.cells #[.int .i64 0] 30 (0, 0)) ∧ w.heap.size + 2 + 1 < (six w2 w.heap.size a u).heap.size ∧ Below w.heap.size w (six w2 w.heap.size a u) ∧
    Kd.V (Kd.int .u8) 5 (six w2 w.heap.size a u) 0 (fun k => w.heap.size + 4 ≤ k) u a.data := by
  obtain ⟨ha, he, hlt, hb⟩ := laid_of hu
  have h2 := laid2_size w
  have h3 := ready_size (laid2 w) (w.heap.size + 2) ss
  refine ⟨?_, ?_, ?_, ?_, ?_, ?_, ?_⟩
  · exact (six_other a u (by omega)).trans hu.var
  · exact hq.keep (by rw [six_size]; exact Nat.le_refl _) (six_other a u (by omega))
  · exact six_heap a u ha
  · exact (six_other a u (by omega)).trans he
  · rw [six_size]; exact hlt
  · exact hb.trans (six_below a u (Nat.le_refl _))
  · exact Kd.V_mono (Kd.V_step hd (fun k ho _ => six_other a u (by omega))) (fun k hk => by omega)

set_option maxRecDepth 100000 in
set_option maxHeartbeats 1000000 in
/-- An act, and words behind it: it is told, with the error. -/
theorem read_more (s : ByteArray) (w : World) (hG : Glb w) (hs : s.size ≤ 2147483648) (a : ActD) (t : List UInt8) (r : List (List UInt8)) (h : actOf (wordsOf s.data.toList) = .ok a (t :: r)) :
    Calls Tryz.prog 54 #[.string s] w (ReadP w (a, 3)) := by
  have HH := Lib.hid h
  clear h
  have hG2 : Glb (laid2 w) := hG.below (laid2_below w) hG.size
  have hsz := laid2_size w
  go_enter_defers Tryz.func54, Tryz.ntmps54
  go_wp2_with fail
  refine (split_any s _ hG2 hs).mono ?_
  rintro e w1 ⟨ss, hl, hz, hn, rfl, rfl⟩
  have HL := Lib.hid hl
  clear hl
  have hv := ready_var hsz ss
  have hq := ready_ws hsz ss hn
  have hG3 : Glb (ready (laid2 w) (w.heap.size + 2) ss) := hG2.below (ready_below _ _ _) hG2.size
  have hgs := hG.size
  go_wp2_with fail
  refine (act_any _ _ ss _ hG3 (by omega) hv hq hz).mono ?_
  intro e w2 hp
  rw [HL.out, HH.out] at hp
  obtain ⟨rest', u, v2, hr, hz2, rfl, hu, hq2, hd⟩ := hp
  obtain ⟨t', r', rfl, _⟩ : ∃ t' r', rest' = t' :: r' ∧ True := by
    cases rest' with
    | nil => cases hr
    | cons t' r' => exact ⟨t', r', rfl, trivial⟩
  obtain ⟨A, c, rfl⟩ := Kd.V_slice hd
  obtain ⟨ha, _, _, _⟩ := laid_of hu
  obtain ⟨hv3, hq3, ha3, he3, hlt3, hb3, hd3⟩ := laid_act hu hq2 hd
  obtain ⟨⟨c0, c1, c2, c3, c4, c5⟩, f0, f1, f2, f3, f4, f5⟩ := cells6 ha
  clear hr
  go_wp2_with fail
  generalize hW : six w2 w.heap.size a (.slice A a.data.length c) = W3 at hv3 hq3 ha3 he3 hlt3 hb3 hd3
  simp only [six] at hW
  rw [hW]
  clear hW
  refine (ended_cons (w.heap.size + 2 + 1) v2 t' r' _ hv3 hq3).mono ?_
  rintro e w4 ⟨rfl, v4, hu4⟩
  have ha4 := (hu4.block w.heap.size (by omega) (by omega)).trans ha3
  have he4 := (hu4.block (w.heap.size + 1) (by omega) (by omega)).trans he3
  have hb4 := hb3.trans (hu4.down (N := w.heap.size) (by omega) (by omega))
  have hd4 := V_upd hd3 hu4 (fun k hk => by omega)
  have hlt4 : w.heap.size + 2 + 1 < w4.heap.size := Nat.lt_of_lt_of_le hlt3 hu4.size
  clear hu4
  refine leaves_cons (f := 93) (args := #[.pointer (some ⟨w.heap.size + 1, 0, none⟩)]) (by simp) (by simp [go_sem]) ?_
  refine (caught_panicking (w.heap.size + 1) 0 3 _ (by omega) (cell_of_one he4) (free_of_one he4)).mono ?_
  rintro e u' w' ⟨rfl, rfl, rfl⟩
  have ha' : ((w4.setCell ⟨w.heap.size + 1, 0, none⟩ (.int .i64 3)).alloc (.cells #[.int .i64 3] 180)).heap[w.heap.size]? = some (.cells #[.int .u8 a.kind, .int .u8 a.mode, .int .i64 a.p, .int .i64 a.n, .int .u64 a.version, .slice A a.data.length c] 49 (0, 0)) :=
    (Below.heap_alloc _ _ _ (by simp [World.setCell]; omega)).trans ((Below.heap_setCell _ _ _ _ (by simp)).trans ha4)
  have he' : ((w4.setCell ⟨w.heap.size + 1, 0, none⟩ (.int .i64 3)).alloc (.cells #[.int .i64 3] 180)).heap[w.heap.size + 1]? = some (.cells #[.int .i64 3] 30 (0, 0)) :=
    (Below.heap_alloc _ _ _ (by simp [World.setCell]; omega)).trans (one_setCell he4)
  have hb' : Below w.heap.size w ((w4.setCell ⟨w.heap.size + 1, 0, none⟩ (.int .i64 3)).alloc (.cells #[.int .i64 3] 180)) := (hb4.setCell (p := ⟨w.heap.size + 1, 0, none⟩) (by simp) _).alloc (by simp [World.setCell]; omega) _
  have hd' := Kd.V_alloc (Kd.V_far (p := ⟨w.heap.size + 1, 0, none⟩) hd4 (fun k hk => by show k ≠ w.heap.size + 1; omega) (.int .i64 3)) (.cells #[.int .i64 3] 180)
  generalize (w4.setCell ⟨w.heap.size + 1, 0, none⟩ (.int .i64 3)).alloc (.cells #[.int .i64 3] 180) = W at ha' he' hb' hd' ⊢
  obtain ⟨⟨k0, k1, k2, k3, k4, k5⟩, _⟩ := cells6 ha'
  have d0 := cell_of_one he'
  simp [Leaves, settle, results, Tryz.results54, go_sem, k0, k1, k2, k3, k4, k5, d0]
  exact ⟨_, rfl, Kd.V_mono hd' (fun k hk => by omega), hb'⟩

set_option maxRecDepth 100000 in
set_option maxHeartbeats 1000000 in
/-- An act, and nothing behind it. -/
theorem read_ok (s : ByteArray) (w : World) (hG : Glb w) (hs : s.size ≤ 2147483648) (a : ActD) (h : actOf (wordsOf s.data.toList) = .ok a []) :
    Calls Tryz.prog 54 #[.string s] w (ReadP w (a, 0)) := by
  have HH := Lib.hid h
  clear h
  have hG2 : Glb (laid2 w) := hG.below (laid2_below w) hG.size
  have hsz := laid2_size w
  go_enter_defers Tryz.func54, Tryz.ntmps54
  go_wp2_with fail
  refine (split_any s _ hG2 hs).mono ?_
  rintro e w1 ⟨ss, hl, hz, hn, rfl, rfl⟩
  have HL := Lib.hid hl
  clear hl
  have hv := ready_var hsz ss
  have hq := ready_ws hsz ss hn
  have hG3 : Glb (ready (laid2 w) (w.heap.size + 2) ss) := hG2.below (ready_below _ _ _) hG2.size
  have hgs := hG.size
  go_wp2_with fail
  refine (act_any _ _ ss _ hG3 (by omega) hv hq hz).mono ?_
  intro e w2 hp
  rw [HL.out, HH.out] at hp
  obtain ⟨rest', u, v2, hr, hz2, rfl, hu, hq2, hd⟩ := hp
  obtain rfl : rest' = [] := by
    cases rest' with
    | nil => rfl
    | cons t' r' => cases hr
  obtain ⟨A, c, rfl⟩ := Kd.V_slice hd
  obtain ⟨ha, _, _, _⟩ := laid_of hu
  obtain ⟨hv3, hq3, ha3, he3, hlt3, hb3, hd3⟩ := laid_act hu hq2 hd
  obtain ⟨⟨c0, c1, c2, c3, c4, c5⟩, f0, f1, f2, f3, f4, f5⟩ := cells6 ha
  clear hr
  go_wp2_with fail
  generalize hW : six w2 w.heap.size a (.slice A a.data.length c) = W3 at hv3 hq3 ha3 he3 hlt3 hb3 hd3
  simp only [six] at hW
  rw [hW]
  clear hW
  refine (ended_nil (w.heap.size + 2 + 1) v2 _ hv3 hq3).mono ?_
  rintro e w4 ⟨rfl, v4, hu4, _⟩
  have ha4 := (hu4.block w.heap.size (by omega) (by omega)).trans ha3
  have he4 := (hu4.block (w.heap.size + 1) (by omega) (by omega)).trans he3
  have hb4 := hb3.trans (hu4.down (N := w.heap.size) (by omega) (by omega))
  have hd4 := V_upd hd3 hu4 (fun k hk => by omega)
  have hlt4 : w.heap.size + 2 + 1 < w4.heap.size := Nat.lt_of_lt_of_le hlt3 hu4.size
  clear hu4 hv3 hq3 ha3 he3 hlt3 hb3 hd3 c0 c1 c2 c3 c4 c5 f0 f1 f2 f3 f4 f5
  obtain ⟨⟨c0, c1, c2, c3, c4, c5⟩, f0, f1, f2, f3, f4, f5⟩ := cells6 ha4
  have e0 := cell_of_one he4
  have e1 := free_of_one he4
  go_wp2
  refine leaves_cons (f := 93) (args := #[.pointer (some ⟨w.heap.size + 1, 0, none⟩)]) (by simp) (by simp [go_sem]) ?_
  have ha' := (Below.heap_setCell (six w4 w.heap.size a (.slice A a.data.length c)) ⟨w.heap.size + 1, 0, none⟩ (.int .i64 0) w.heap.size (by simp)).trans (six_heap a (.slice A a.data.length c) ha4)
  have he' := one_setCell (u := .int .i64 0) ((six_other (W := w4) (q := w.heap.size) (k := w.heap.size + 1) a (.slice A a.data.length c) (by omega)).trans he4)
  have hb' := (hb4.trans (six_below (W := w4) a (.slice A a.data.length c) (Nat.le_refl w.heap.size))).setCell (p := ⟨w.heap.size + 1, 0, none⟩) (by simp) (.int .i64 0)
  have hd' := Kd.V_far (p := ⟨w.heap.size + 1, 0, none⟩) (Kd.V_step (w1 := six w4 w.heap.size a (.slice A a.data.length c)) hd4 (fun k hk _ => six_other a _ (by omega))) (fun k hk => by show k ≠ w.heap.size + 1; omega) (.int .i64 0)
  generalize hW : (six w4 w.heap.size a (.slice A a.data.length c)).setCell ⟨w.heap.size + 1, 0, none⟩ (.int .i64 0) = W at ha' he' hb' hd'
  clear hW
  refine (caught_idle (w.heap.size + 1) _).mono ?_
  rintro e u' w' ⟨rfl, rfl, rfl⟩
  obtain ⟨⟨k0, k1, k2, k3, k4, k5⟩, _⟩ := cells6 ha'
  have d0 := cell_of_one he'
  simp [Leaves, settle, results, Tryz.results54, go_sem, k0, k1, k2, k3, k4, k5, d0]
  exact ⟨_, rfl, Kd.V_mono hd' (fun k hk => by omega), hb'⟩

/-- read, at any line. -/
theorem read_any (s : ByteArray) (w : World) (hG : Glb w) (hs : s.size ≤ 2147483648) : Calls Tryz.prog 54 #[.string s] w (ReadP w (readOf s.data.toList)) := by
  unfold readOf
  split
  · exact read_bad s w hG hs _ (by assumption)
  · exact read_ok s w hG hs _ (by assumption)
  · exact read_more s w hG hs _ _ _ (by assumption)
end Go.Proofs.YtccnmbfigpjkaaaGreatDoor
