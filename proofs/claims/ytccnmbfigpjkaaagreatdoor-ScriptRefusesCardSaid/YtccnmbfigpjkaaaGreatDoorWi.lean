/-
  DERIVED. 'begin': the start of a line, for every line of at most 2^31 bytes.
-/
import Derived.Test.YtccnmbfigpjkaaaGreatDoorWh
namespace Go.Proofs.YtccnmbfigpjkaaaGreatDoor
open Go.RowKit Go.Sort Go.Proofs.YtccnmbfigpjkaaaGreatDoorW.PrintWords
open Scr

def IsSlice (v : Value) : Prop := ∃ A n c, v = .slice A n c

/-- What 'begin' hands back. -/
def BeginP (w : World) (r : Begun) (E : Ending) (w' : World) : Prop :=
  match r with
  | .ok x => ∃ sv iv, E = .returned (.tuple #[.agg #[.int .i64 x.sector, .int .i64 x.block, .int .i64 x.slot, sv, iv, .int .u64 x.version], .int .i64 0]) ∧ BytesOf w w' sv x.seed ∧ BytesOf w w' iv x.image ∧ Below w.heap.size w w'
  | .bad n => ∃ a b c sv iv v, E = .returned (.tuple #[.agg #[.int .i64 a, .int .i64 b, .int .i64 c, sv, iv, .int .u64 v], .int .i64 n]) ∧ IsSlice sv ∧ IsSlice iv ∧ Below w.heap.size w w'

/-- How far 'begin' is: its two results' cells. -/
structure St (w W : World) (x0 x1 x2 x3 x4 x5 : Value) : Prop where
  x : W.heap[w.heap.size]? = some (.cells #[x0, x1, x2, x3, x4, x5] 39 (0, 0))
  e : W.heap[w.heap.size + 1]? = some (.cells #[.int .i64 0] 30 (0, 0))
  lt : w.heap.size + 2 + 1 < W.heap.size
  below : Below w.heap.size w W
section
variable {w W W1 : World} {x0 x1 x2 x3 x4 x5 u v v1 : Value} {ss : List ByteArray} {xs : List Int} {ok : Nat → Prop}
theorem St.upd (h : St w W x0 x1 x2 x3 x4 x5) (hu : Upd (w.heap.size + 2 + 1) W W1 v1) : St w W1 x0 x1 x2 x3 x4 x5 := by
  have := h.lt
  exact ⟨(hu.block _ (by omega) (by omega)).trans h.x, (hu.block _ (by omega) (by omega)).trans h.e, Nat.lt_of_lt_of_le h.lt hu.size, h.below.trans (hu.down (by omega) (by omega))⟩
theorem St.cells (h : St w W x0 x1 x2 x3 x4 x5) : (W.cell? ⟨w.heap.size, 0, none⟩ = some x0 ∧ W.cell? ⟨w.heap.size, 1, none⟩ = some x1 ∧ W.cell? ⟨w.heap.size, 2, none⟩ = some x2 ∧ W.cell? ⟨w.heap.size, 3, none⟩ = some x3 ∧ W.cell? ⟨w.heap.size, 4, none⟩ = some x4 ∧ W.cell? ⟨w.heap.size, 5, none⟩ = some x5) ∧
    (W.frozen? ⟨w.heap.size, 0, none⟩ = false ∧ W.frozen? ⟨w.heap.size, 1, none⟩ = false ∧ W.frozen? ⟨w.heap.size, 2, none⟩ = false ∧ W.frozen? ⟨w.heap.size, 3, none⟩ = false ∧ W.frozen? ⟨w.heap.size, 4, none⟩ = false ∧ W.frozen? ⟨w.heap.size, 5, none⟩ = false) := cells6 h.x
theorem St.set_of (h : St w W x0 x1 x2 x3 x4 x5) (o : Nat) (y0 y1 y2 y3 y4 y5 : Value) (he : (#[x0, x1, x2, x3, x4, x5] : Array Value).setIfInBounds o u = #[y0, y1, y2, y3, y4, y5]) : St w (W.setCell ⟨w.heap.size, o, none⟩ u) y0 y1 y2 y3 y4 y5 :=
  ⟨by rw [setCell_heap h.x, he], (Below.heap_setCell _ _ _ _ (by simp)).trans h.e, by simpa [World.setCell] using h.lt, h.below.setCell (p := ⟨w.heap.size, o, none⟩) (Nat.le_refl _) _⟩
theorem set_var (h : Var (w.heap.size + 2 + 1) W v) (o : Nat) (u : Value) : Var (w.heap.size + 2 + 1) (W.setCell ⟨w.heap.size, o, none⟩ u) v := (Below.heap_setCell _ _ _ _ (by show _ ≠ w.heap.size; omega)).trans h
theorem set_ws (h : Ws (w.heap.size + 2 + 1) (w.heap.size + 2) W v ss) (o : Nat) (u : Value) : Ws (w.heap.size + 2 + 1) (w.heap.size + 2) (W.setCell ⟨w.heap.size, o, none⟩ u) v ss :=
  h.keep (by simp [World.setCell]) (Below.heap_setCell _ _ _ _ (by show _ ≠ w.heap.size; omega))
/-- Bytes that lie behind what 'begin' itself has laid. -/
abbrev Far (w W : World) (v : Value) (xs : List Int) : Prop := Kd.V (Kd.int .u8) 5 W 0 (fun k => w.heap.size + 4 ≤ k) v xs
theorem Far.set (h : Far w W v xs) (o : Nat) (u : Value) : Far w (W.setCell ⟨w.heap.size, o, none⟩ u) v xs := Kd.V_far (p := ⟨w.heap.size, o, none⟩) h (fun k hk => by show k ≠ w.heap.size; omega) u
theorem Far.upd (h : Far w W v xs) (hu : Upd (w.heap.size + 2 + 1) W W1 v1) : Far w W1 v xs := V_upd h hu (fun k hk => by omega)
end

theorem begin_settled {w W : World} {tmps : Array Value} {R : Ending → World → Prop} {x0 x1 x2 x3 x4 x5 e : Value} (h2 : tmps[2]? = some (.pointer (some ⟨w.heap.size, 0, none⟩))) (h3 : tmps[3]? = some (.pointer (some ⟨w.heap.size + 1, 0, none⟩)))
    (hx : W.heap[w.heap.size]? = some (.cells #[x0, x1, x2, x3, x4, x5] 39 (0, 0))) (he : W.heap[w.heap.size + 1]? = some (.cells #[e] 30 (0, 0))) (hR : R (.returned (.tuple #[.agg #[x0, x1, x2, x3, x4, x5], e])) W) :
    (results Tryz.f53 tmps).run Tryz.prog W = .ok (.tuple #[.agg #[x0, x1, x2, x3, x4, x5], e]) W ∧ R (.returned (.tuple #[.agg #[x0, x1, x2, x3, x4, x5], e])) W := by
  obtain ⟨⟨c0, c1, c2, c3, c4, c5⟩, _⟩ := cells6 hx
  have d0 := cell_of_one he
  refine ⟨?_, hR⟩
  simp [results, Tryz.results53, go_sem, h2, h3, c0, c1, c2, c3, c4, c5, d0]

/-- Where something was thrown. -/
theorem begin_thrown {w W : World} {tmps : Array Value} {a b c v n : Int} {sv iv : Value} (hs : St w W (.int .i64 a) (.int .i64 b) (.int .i64 c) sv iv (.int .u64 v)) (hsv : IsSlice sv) (hiv : IsSlice iv)
    (h2 : tmps[2]? = some (.pointer (some ⟨w.heap.size, 0, none⟩))) (h3 : tmps[3]? = some (.pointer (some ⟨w.heap.size + 1, 0, none⟩))) :
    bodyPostD Tryz.prog Tryz.f53 (BeginP w (.bad n)) (.panic [{ v := stopV n, recovered := false }]) { tmps := tmps, defers := [{ target := .fn (.func 93) #[], args := #[.pointer (some ⟨w.heap.size + 1, 0, none⟩)] }] } W := by
  have hlt := hs.lt
  refine leaves_cons (f := 93) (args := #[.pointer (some ⟨w.heap.size + 1, 0, none⟩)]) (by simp) (by simp [go_sem]) ?_
  refine (caught_panicking (w.heap.size + 1) 0 n _ (by omega) (cell_of_one hs.e) (free_of_one hs.e)).mono ?_
  rintro e u' w' ⟨rfl, rfl, rfl⟩
  have hx' : ((W.setCell ⟨w.heap.size + 1, 0, none⟩ (.int .i64 n)).alloc (.cells #[.int .i64 n] 180)).heap[w.heap.size]? = some (.cells #[.int .i64 a, .int .i64 b, .int .i64 c, sv, iv, .int .u64 v] 39 (0, 0)) :=
    (Below.heap_alloc _ _ _ (by simp [World.setCell]; omega)).trans ((Below.heap_setCell _ _ _ _ (by simp)).trans hs.x)
  have he' : ((W.setCell ⟨w.heap.size + 1, 0, none⟩ (.int .i64 n)).alloc (.cells #[.int .i64 n] 180)).heap[w.heap.size + 1]? = some (.cells #[.int .i64 n] 30 (0, 0)) :=
    (Below.heap_alloc _ _ _ (by simp [World.setCell]; omega)).trans (one_setCell hs.e)
  have hb' : Below w.heap.size w ((W.setCell ⟨w.heap.size + 1, 0, none⟩ (.int .i64 n)).alloc (.cells #[.int .i64 n] 180)) := (hs.below.setCell (p := ⟨w.heap.size + 1, 0, none⟩) (by simp) _).alloc (by simp [World.setCell]; omega) _
  generalize (W.setCell ⟨w.heap.size + 1, 0, none⟩ (.int .i64 n)).alloc (.cells #[.int .i64 n] 180) = W' at hx' he' hb' ⊢
  obtain ⟨hr, hR⟩ := begin_settled (R := fun E w' => BeginP w (.bad n) E w') h2 h3 hx' he' ⟨a, b, c, sv, iv, v, rfl, hsv, hiv, hb'⟩
  simp only [settle]
  exact ⟨_, hr, hR⟩

/-- Where all was read. -/
theorem begin_done {w W : World} {tmps : Array Value} {a b c v : Int} {sv iv : Value} {xs ys : List Int} (hs : St w W (.int .i64 a) (.int .i64 b) (.int .i64 c) sv iv (.int .u64 v)) (hx : Far w W sv xs) (hy : Far w W iv ys)
    (h2 : tmps[2]? = some (.pointer (some ⟨w.heap.size, 0, none⟩))) (h3 : tmps[3]? = some (.pointer (some ⟨w.heap.size + 1, 0, none⟩))) :
    bodyPostD Tryz.prog Tryz.f53 (BeginP w (.ok ⟨a, b, c, xs, ys, v⟩)) .ret { tmps := tmps, defers := [{ target := .fn (.func 93) #[], args := #[.pointer (some ⟨w.heap.size + 1, 0, none⟩)] }] }
      (((((((W.setCell ⟨w.heap.size, 0, none⟩ (.int .i64 a)).setCell ⟨w.heap.size, 1, none⟩ (.int .i64 b)).setCell ⟨w.heap.size, 2, none⟩ (.int .i64 c)).setCell ⟨w.heap.size, 3, none⟩ sv).setCell ⟨w.heap.size, 4, none⟩ iv).setCell ⟨w.heap.size, 5, none⟩ (.int .u64 v)).setCell ⟨w.heap.size + 1, 0, none⟩ (.int .i64 0)) := by
  have S1 := (((((hs.set_of 0 (u := .int .i64 a) _ _ _ _ _ _ rfl).set_of 1 (u := .int .i64 b) _ _ _ _ _ _ rfl).set_of 2 (u := .int .i64 c) _ _ _ _ _ _ rfl).set_of 3 (u := sv) _ _ _ _ _ _ rfl).set_of 4 (u := iv) _ _ _ _ _ _ rfl).set_of 5 (u := .int .u64 v) _ _ _ _ _ _ rfl
  have X1 := (((((hx.set 0 (.int .i64 a)).set 1 (.int .i64 b)).set 2 (.int .i64 c)).set 3 sv).set 4 iv).set 5 (.int .u64 v)
  have Y1 := (((((hy.set 0 (.int .i64 a)).set 1 (.int .i64 b)).set 2 (.int .i64 c)).set 3 sv).set 4 iv).set 5 (.int .u64 v)
  generalize ((((((W.setCell ⟨w.heap.size, 0, none⟩ (.int .i64 a)).setCell ⟨w.heap.size, 1, none⟩ (.int .i64 b)).setCell ⟨w.heap.size, 2, none⟩ (.int .i64 c)).setCell ⟨w.heap.size, 3, none⟩ sv).setCell ⟨w.heap.size, 4, none⟩ iv).setCell ⟨w.heap.size, 5, none⟩ (.int .u64 v)) = W1 at S1 X1 Y1 ⊢
  have hb' := S1.below.setCell (p := ⟨w.heap.size + 1, 0, none⟩) (by simp) (.int .i64 0)
  have hx' := (Below.heap_setCell W1 ⟨w.heap.size + 1, 0, none⟩ (.int .i64 0) w.heap.size (by simp)).trans S1.x
  have he' := one_setCell (u := .int .i64 0) S1.e
  have X2 := Kd.V_far (p := ⟨w.heap.size + 1, 0, none⟩) X1 (fun k hk => by show k ≠ w.heap.size + 1; omega) (.int .i64 0)
  have Y2 := Kd.V_far (p := ⟨w.heap.size + 1, 0, none⟩) Y1 (fun k hk => by show k ≠ w.heap.size + 1; omega) (.int .i64 0)
  generalize W1.setCell ⟨w.heap.size + 1, 0, none⟩ (.int .i64 0) = W2 at hb' hx' he' X2 Y2 ⊢
  refine leaves_cons (f := 93) (args := #[.pointer (some ⟨w.heap.size + 1, 0, none⟩)]) (by simp) (by simp [go_sem]) ?_
  refine (caught_idle (w.heap.size + 1) _).mono ?_
  rintro e u' w' ⟨rfl, rfl, rfl⟩
  obtain ⟨hr, hR⟩ := begin_settled (R := fun E w' => BeginP w (.ok ⟨a, b, c, xs, ys, v⟩) E w') h2 h3 hx' he' ⟨sv, iv, rfl, Kd.V_mono X2 (fun k hk => by omega), Kd.V_mono Y2 (fun k hk => by omega), hb'⟩
  simp only [settle]
  exact ⟨_, hr, hR⟩

theorem ne_world {s : ByteArray} (h : ¬ s.data.toList = wWorld) : (s.toList == [119, 111, 114, 108, 100]) = false := ne_beq h
theorem slice_nil : IsSlice (.slice none 0 0) := ⟨_, _, _, rfl⟩
theorem V_isSlice {α : Type} {d : Kd α} {e base : Nat} {ok : Nat → Prop} {W : World} {v : Value} {xs : List α} (h : Kd.V d e W base ok v xs) : IsSlice v := by
  obtain ⟨A, c, rfl⟩ := Kd.V_slice h; exact ⟨_, _, _, rfl⟩
theorem glb_set {w W : World} {o : Nat} {u : Value} (h : Glb W) (hg : 8 ≤ w.heap.size) : Glb (W.setCell ⟨w.heap.size, o, none⟩ u) := h.below ((Below.refl w.heap.size W).setCell (p := ⟨w.heap.size, o, none⟩) (Nat.le_refl _) u) hg

/-- Where 'begin' stands ahead of the words. -/
abbrev laidX (w : World) : World := (w.alloc (.cells #[.int .i64 0, .int .i64 0, .int .i64 0, .slice none 0 0, .slice none 0 0, .int .u64 0] 39)).alloc (.cells #[.int .i64 0] 30)
theorem laidX_size (w : World) : (laidX w).heap.size = w.heap.size + 2 := by simp [laidX]
theorem laidX_below (w : World) : Below w.heap.size w (laidX w) := ((Below.refl _ w).alloc (Nat.le_refl _) _).alloc (by simp) _
theorem begun (w : World) (ss : List ByteArray) : St w (ready (laidX w) (w.heap.size + 2) ss) (.int .i64 0) (.int .i64 0) (.int .i64 0) (.slice none 0 0) (.slice none 0 0) (.int .u64 0) := by
  have hb := ready_below (laidX w) (w.heap.size + 2) ss
  have h2 := laidX_size w
  have h3 := ready_size (laidX w) (w.heap.size + 2) ss
  refine ⟨?_, ?_, by omega, (laidX_below w).trans (hb.mono (by omega))⟩
  · rw [hb.block _ (by omega)]; exact (Below.heap_alloc _ _ _ (by simp)).trans (heap_new w _)
  · rw [hb.block _ (by omega)]
    have := heap_new (w.alloc (.cells #[.int .i64 0, .int .i64 0, .int .i64 0, .slice none 0 0, .slice none 0 0, .int .u64 0] 39)) (.cells #[.int .i64 0] 30)
    rwa [World.size_alloc] at this
-- THE WALK
set_option maxRecDepth 100000 in
set_option maxHeartbeats 4000000 in
theorem begin_any (s : ByteArray) (w : World) (hG : Glb w) (hs : s.size ≤ 2147483648) :
    Calls Tryz.prog 53 #[.string s] w (BeginP w (beginOf s.data.toList)) := by
  have hG2 : Glb (laidX w) := hG.below (laidX_below w) hG.size
  have hsz := laidX_size w
  go_enter_defers Tryz.func53, Tryz.ntmps53
  go_wp2_with fail
  refine (split_any s _ hG2 hs).mono ?_
  rintro e w1 ⟨ss, hl, hz, hn, rfl, rfl⟩
  have HL := Lib.hid hl
  clear hl
  have hv := ready_var hsz ss
  have hq := ready_ws hsz ss hn
  have hG3 : Glb (ready (laidX w) (w.heap.size + 2) ss) := hG2.below (ready_below _ _ _) hG2.size
  have hgs := hG.size
  have S0 := begun w ss
  go_wp2_with fail
  have hB : 8 ≤ w.heap.size + 2 + 1 := by omega
  cases ss with
  | nil =>
    refine (next_nil _ _ _ hv hq).mono ?_
    rintro e w1 ⟨rfl, v1, hu⟩
    have hE : beginOf s.data.toList = .bad 3 := by unfold beginOf; rw [← HL.out]; rfl
    rw [hE]
    exact begin_thrown (S0.upd hu) slice_nil slice_nil rfl rfl
  | cons s0 r1 =>
    refine (next_cons _ _ s0 r1 _ hv hq).mono ?_
    rintro e w1 ⟨rfl, v1, hu1, hq1⟩
    have S1 := S0.upd hu1
    have G1 := hG3.upd hu1 hB
    have hv1 := hu1.var
    have hz1 := hz.tail
    clear hq hv hu1 S0 hG3
    by_cases hk : s0.data.toList = wWorld
    rotate_left
    · have hE : beginOf s.data.toList = .bad 21 := by
        unfold beginOf; rw [← HL.out]; show (match startOf (s0.data.toList :: lst r1) with | .bad e => Begun.bad e | .ok x [] => .ok x | .ok _ (_ :: _) => .bad 3) = _; rw [startOf, if_neg hk]
      have hb := ne_world hk
      clear hk
      go_wp2_with fail
      exact begin_thrown S1 slice_nil slice_nil rfl rfl
    have hw : s0.toList = [119, 111, 114, 108, 100] := tl hk
    have HK := Lib.hid hk
    clear hk
    have hB0 : ∀ o, startOf (s0.data.toList :: lst r1) = o → beginOf s.data.toList = match o with | .bad e => Begun.bad e | .ok x [] => .ok x | .ok _ (_ :: _) => .bad 3 := by
      intro o ho; unfold beginOf; rw [← HL.out]; show (match startOf (s0.data.toList :: lst r1) with | .bad e => Begun.bad e | .ok x [] => .ok x | .ok _ (_ :: _) => .bad 3) = _; rw [ho]
    have HB0 := Lib.hid hB0
    clear hB0
    go_wp2_with fail
    refine (number_any _ v1 r1 _ 2147483647 rfl _ G1 hB hv1 hq1 hz1 (Nat.le_refl _)).mono ?_
    rintro e w2 (⟨a, r2, e2, hz2, rfl, v2, u2, hq2⟩ | ⟨e2, rfl, v2, u2⟩)
    rotate_left
    · have hE := HB0.out _ (by rw [startOf, if_pos HK.out, takeN_none e2])
      rw [hE]
      exact begin_thrown (S1.upd u2) slice_nil slice_nil rfl rfl
    have S2 := S1.upd u2
    have G2 := G1.upd u2 hB
    have hv2 := u2.var
    have E2 := Lib.hid e2
    clear e2 u2 S1 G1 hv1 hq1
    have a2 : a ≤ 2147483647 := num_le E2.out
    go_wp2_with fail
    refine (number_any _ v2 r2 _ 2147483647 rfl _ G2 hB hv2 hq2 hz2 (Nat.le_refl _)).mono ?_
    rintro e w3 (⟨b, r3, e3, hz3, rfl, v3, u3, hq3⟩ | ⟨e3, rfl, v3, u3⟩)
    rotate_left
    · have hE := HB0.out _ (by rw [startOf, if_pos HK.out, takeN_some E2.out, takeN_none e3])
      rw [hE]
      exact begin_thrown (S2.upd u3) slice_nil slice_nil rfl rfl
    have S3 := S2.upd u3
    have G3 := G2.upd u3 hB
    have hv3 := u3.var
    have E3 := Lib.hid e3
    clear e3 u3 S2 G2 hv2 hq2
    have a3 : b ≤ 2147483647 := num_le E3.out
    go_wp2_with fail
    refine (number_any _ v3 r3 _ 2147483647 rfl _ G3 hB hv3 hq3 hz3 (Nat.le_refl _)).mono ?_
    rintro e w4 (⟨c, r4, e4, hz4, rfl, v4, u4, hq4⟩ | ⟨e4, rfl, v4, u4⟩)
    rotate_left
    · have hE := HB0.out _ (by rw [startOf, if_pos HK.out, takeN_some E2.out, takeN_some E3.out, takeN_none e4])
      rw [hE]
      exact begin_thrown (S3.upd u4) slice_nil slice_nil rfl rfl
    have S4 := S3.upd u4
    have G4 := G3.upd u4 hB
    have hv4 := u4.var
    have E4 := Lib.hid e4
    clear e4 u4 S3 G3 hv3 hq3
    have a4 : c ≤ 2147483647 := num_le E4.out
    obtain ⟨⟨c0, c1, c2, _, _, _⟩, f0, f1, f2, _, _, _⟩ := S4.cells
    have T4 := ((S4.set_of 0 (u := .int .i64 a) (.int .i64 a) _ _ _ _ _ rfl).set_of 1 (u := .int .i64 b) (.int .i64 a) (.int .i64 b) _ _ _ _ rfl).set_of 2 (u := .int .i64 c) (.int .i64 a) (.int .i64 b) (.int .i64 c) _ _ _ rfl
    have tv4 := set_var (set_var (set_var hv4 0 (.int .i64 a)) 1 (.int .i64 b)) 2 (.int .i64 c)
    have tq4 := set_ws (set_ws (set_ws hq4 0 (.int .i64 a)) 1 (.int .i64 b)) 2 (.int .i64 c)
    have tg4 : Glb (((w4.setCell ⟨w.heap.size, 0, none⟩ (.int .i64 a)).setCell ⟨w.heap.size, 1, none⟩ (.int .i64 b)).setCell ⟨w.heap.size, 2, none⟩ (.int .i64 c)) := glb_set (glb_set (glb_set G4 hgs) hgs) hgs
    clear S4 G4 hv4 hq4
    go_wp2_with fail
    generalize ((w4.setCell ⟨w.heap.size, 0, none⟩ (.int .i64 a)).setCell ⟨w.heap.size, 1, none⟩ (.int .i64 b)).setCell ⟨w.heap.size, 2, none⟩ (.int .i64 c) = W4 at T4 tv4 tq4 tg4 ⊢
    clear c0 c1 c2 f0 f1 f2
    have S4 := T4
    have hv4 := tv4
    have hq4 := tq4
    have G4 := tg4
    clear T4 tv4 tq4 tg4
    go_wp2_with fail
    refine (number_any _ v4 r4 _ 2147483647 rfl _ G4 hB hv4 hq4 hz4 (Nat.le_refl _)).mono ?_
    rintro e w5 (⟨d, r5, e5, hz5, rfl, v5, u5, hq5⟩ | ⟨e5, rfl, v5, u5⟩)
    rotate_left
    · have hE := HB0.out _ (by rw [startOf, if_pos HK.out, takeN_some E2.out, takeN_some E3.out, takeN_some E4.out, takeN_none e5])
      rw [hE]
      exact begin_thrown (S4.upd u5) slice_nil slice_nil rfl rfl
    have S5 := S4.upd u5
    have G5 := G4.upd u5 hB
    have hv5 := u5.var
    have E5 := Lib.hid e5
    clear e5 u5 S4 G4 hv4 hq4
    have a5 : d ≤ 2147483647 := num_le E5.out
    obtain ⟨⟨c0, c1, c2, c3, c4, c5⟩, f0, f1, f2, f3, f4, f5⟩ := S5.cells
    have T5 := S5.set_of 5 (u := .int .u64 d) (.int .i64 a) (.int .i64 b) (.int .i64 c) _ _ (.int .u64 d) rfl
    have tv5 := set_var hv5 5 (.int .u64 d)
    have tq5 := set_ws hq5 5 (.int .u64 d)
    have tg5 : Glb (w5.setCell ⟨w.heap.size, 5, none⟩ (.int .u64 d)) := glb_set G5 hgs
    clear S5 G5 hv5 hq5
    go_wp2_with fail
    generalize w5.setCell ⟨w.heap.size, 5, none⟩ (.int .u64 d) = W5 at T5 tv5 tq5 tg5 ⊢
    clear c0 c1 c2 c3 c4 c5 f0 f1 f2 f3 f4 f5
    have S5 := T5
    have hv5 := tv5
    have hq5 := tq5
    have G5 := tg5
    clear T5 tv5 tq5 tg5
    go_wp2_with fail
    refine (text_any _ v5 r5 _ hv5 hq5 hz5).mono ?_
    rintro e w6 (⟨xs, r6, e6, hz6, d6, v6, rfl, u6, hq6, hd6⟩ | ⟨e6, rfl, v6, u6⟩)
    rotate_left
    · have hE := HB0.out _ (by rw [startOf, if_pos HK.out, takeN_some E2.out, takeN_some E3.out, takeN_some E4.out, takeN_some E5.out, takeT_none e6])
      rw [hE]
      exact begin_thrown (S5.upd u6) slice_nil slice_nil rfl rfl
    have S6 := S5.upd u6
    have G6 := G5.upd u6 hB
    have hv6 := u6.var
    have E6 := Lib.hid e6
    have F6 : Far w w6 d6 xs := Kd.V_mono hd6 (fun k hk => by have := S5.lt; omega)
    obtain ⟨A6, c6, rfl⟩ := Kd.V_slice hd6
    clear e6 u6 S5 G5 hv5 hq5
    obtain ⟨⟨c0, c1, c2, c3, c4, c5⟩, f0, f1, f2, f3, f4, f5⟩ := S6.cells
    have T6 := S6.set_of 3 (u := .slice A6 xs.length c6) (.int .i64 a) (.int .i64 b) (.int .i64 c) (.slice A6 xs.length c6) _ (.int .u64 d) rfl
    have tv6 := set_var hv6 3 (.slice A6 xs.length c6)
    have tq6 := set_ws hq6 3 (.slice A6 xs.length c6)
    have tg6 : Glb (w6.setCell ⟨w.heap.size, 3, none⟩ (.slice A6 xs.length c6)) := glb_set G6 hgs
    have D6 := F6.set 3 (.slice A6 xs.length c6)
    clear F6
    clear S6 G6 hv6 hq6
    go_wp2_with fail
    generalize w6.setCell ⟨w.heap.size, 3, none⟩ (.slice A6 xs.length c6) = W6 at T6 tv6 tq6 tg6 D6 ⊢
    clear c0 c1 c2 c3 c4 c5 f0 f1 f2 f3 f4 f5
    have S6 := T6
    have hv6 := tv6
    have hq6 := tq6
    have G6 := tg6
    clear T6 tv6 tq6 tg6
    go_wp2_with fail
    refine (text_any _ v6 r6 _ hv6 hq6 hz6).mono ?_
    rintro e w7 (⟨ys, r7, e7, hz7, d7, v7, rfl, u7, hq7, hd7⟩ | ⟨e7, rfl, v7, u7⟩)
    rotate_left
    · have hE := HB0.out _ (by rw [startOf, if_pos HK.out, takeN_some E2.out, takeN_some E3.out, takeN_some E4.out, takeN_some E5.out, takeT_some E6.out, takeT_none e7])
      rw [hE]
      exact begin_thrown (S6.upd u7) (V_isSlice D6) slice_nil rfl rfl
    have S7 := S6.upd u7
    have G7 := G6.upd u7 hB
    have hv7 := u7.var
    have E7 := Lib.hid e7
    have F7 : Far w w7 d7 ys := Kd.V_mono hd7 (fun k hk => by have := S6.lt; omega)
    have D6 := Far.upd D6 u7
    obtain ⟨A7, c7, rfl⟩ := Kd.V_slice hd7
    clear e7 u7 S6 G6 hv6 hq6
    obtain ⟨⟨c0, c1, c2, c3, c4, c5⟩, f0, f1, f2, f3, f4, f5⟩ := S7.cells
    have T7 := S7.set_of 4 (u := .slice A7 ys.length c7) (.int .i64 a) (.int .i64 b) (.int .i64 c) (.slice A6 xs.length c6) (.slice A7 ys.length c7) (.int .u64 d) rfl
    have tv7 := set_var hv7 4 (.slice A7 ys.length c7)
    have tq7 := set_ws hq7 4 (.slice A7 ys.length c7)
    have tg7 : Glb (w7.setCell ⟨w.heap.size, 4, none⟩ (.slice A7 ys.length c7)) := glb_set G7 hgs
    have D6 := D6.set 4 (.slice A7 ys.length c7)
    have D7 := F7.set 4 (.slice A7 ys.length c7)
    clear F7
    clear S7 G7 hv7 hq7
    go_wp2_with fail
    generalize w7.setCell ⟨w.heap.size, 4, none⟩ (.slice A7 ys.length c7) = W7 at T7 tv7 tq7 tg7 D6 D7 ⊢
    clear c0 c1 c2 c3 c4 c5 f0 f1 f2 f3 f4 f5
    have S7 := T7
    have hv7 := tv7
    have hq7 := tq7
    have G7 := tg7
    clear T7 tv7 tq7 tg7
    cases r7 with
    | cons t r =>
      refine (ended_cons _ v7 t r _ hv7 hq7).mono ?_
      rintro e w8 ⟨rfl, v8, u8⟩
      have hE := HB0.out _ (by rw [startOf, if_pos HK.out, takeN_some E2.out, takeN_some E3.out, takeN_some E4.out, takeN_some E5.out, takeT_some E6.out, takeT_some E7.out])
      simp only [lst, List.map_cons] at hE
      rw [hE]
      exact begin_thrown (S7.upd u8) ⟨_, _, _, rfl⟩ ⟨_, _, _, rfl⟩ rfl rfl
    | nil =>
      refine (ended_nil _ v7 _ hv7 hq7).mono ?_
      rintro e w8 ⟨rfl, v8, u8, _⟩
      have hE := HB0.out _ (by rw [startOf, if_pos HK.out, takeN_some E2.out, takeN_some E3.out, takeN_some E4.out, takeN_some E5.out, takeT_some E6.out, takeT_some E7.out])
      simp only [lst, List.map_nil] at hE
      have HE := Lib.hid hE
      have S8 := S7.upd u8
      have D6 := Far.upd D6 u8
      have D7 := Far.upd D7 u8
      clear S7 G7 hv7 hq7 u8 hE
      obtain ⟨⟨c0, c1, c2, c3, c4, c5⟩, f0, f1, f2, f3, f4, f5⟩ := S8.cells
      have e0 := cell_of_one S8.e
      have e1 := free_of_one S8.e
      go_wp2
      rw [HE.out]
      exact begin_done S8 D6 D7 rfl rfl
end Go.Proofs.YtccnmbfigpjkaaaGreatDoor
