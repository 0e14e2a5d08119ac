/-
  DERIVED. '(*words).act': an act off the words of a line, for any words; or it throws.
-/
import Derived.Test.YtccnmbfigpjkaaaGreatDoorWd
namespace Go.Proofs.YtccnmbfigpjkaaaGreatDoor
open Go.RowKit Go.Sort Go.Proofs.YtccnmbfigpjkaaaGreatDoorW.PrintWords
open Scr

/-- An act as a value, its data in a slice. -/
abbrev actV (a : ActD) (v : Value) : Value := .agg #[.int .u8 a.kind, .int .u8 a.mode, .int .i64 a.p, .int .i64 a.n, .int .u64 a.version, v]

def ActP (B N : Nat) (w : World) (o : Out ActD) (e : Ending) (w' : World) : Prop :=
  match o with
  | .ok a rest => ∃ rest' v v', rest = lst rest' ∧ Short rest' ∧ e = .returned (actV a v) ∧ Upd B w w' v' ∧ Ws B N w' v' rest' ∧ BytesOf w w' v a.data
  | .bad n => Thr B w n e w'

theorem Upd.setCell {B : Nat} {w w1 : World} {v : Value} (h : Upd B w w1 v) (hB : B < w.heap.size) {p : Addr} (hp : w.heap.size ≤ p.block) (u : Value) : Upd B w (w1.setCell p u) v :=
  ⟨h.os, h.tape, h.output, by simpa [World.setCell] using h.size, fun k hk hb => (Below.heap_setCell w1 p u k (by omega)).trans (h.block k hk hb), (Below.heap_setCell w1 p u B (by omega)).trans h.var⟩

/-- Where the walk of 'act' begins: two blocks more. -/
abbrev boxed (B : Nat) (w : World) : World := (w.alloc (.cells #[.pointer (some ⟨B, 0, none⟩)] 247)).alloc (.cells #[.int .u8 0, .int .u8 0, .int .i64 0, .int .i64 0, .int .u64 0, .slice none 0 0] 49)
theorem heap_new (w : World) (o : Obj) : (w.alloc o).heap[w.heap.size]? = some o := by
  show (w.heap.push o)[w.heap.size]? = some o
  simp
section
variable {B N : Nat} {w w1 : World} {v v1 : Value} {ss : List ByteArray}
theorem boxed_below (B : Nat) (w : World) : Below w.heap.size w (boxed B w) := ((Below.refl _ w).alloc (Nat.le_refl _) _).alloc (by simp) _
theorem boxed_var (h : Var B w v) : Var B (boxed B w) v := h.below (boxed_below B w)
theorem boxed_ws (h : Ws B N w v ss) : Ws B N (boxed B w) v ss := h.below (boxed_below B w)
theorem boxed_glb (h : Glb w) : Glb (boxed B w) := h.below (boxed_below B w) h.size
theorem boxed_size (B : Nat) (w : World) : (boxed B w).heap.size = w.heap.size + 2 := by simp [boxed]
theorem box_of (hv : Var B w v) (h : Upd B (boxed B w) w1 v1) : w1.cell? ⟨w.heap.size, 0, none⟩ = some (.pointer (some ⟨B, 0, none⟩)) := by
  have hl := hv.lt
  rw [h.cell (by rw [boxed_size]; omega) (by omega)]
  have : (boxed B w).heap[w.heap.size]? = some (.cells #[.pointer (some ⟨B, 0, none⟩)] 247 (0, 0)) :=
    (Below.heap_alloc _ _ _ (by simp)).trans (heap_new w _)
  exact cell_of_one this
theorem res_block (hv : Var B w v) (h : Upd B (boxed B w) w1 v1) : w1.heap[w.heap.size + 1]? = some (.cells #[.int .u8 0, .int .u8 0, .int .i64 0, .int .i64 0, .int .u64 0, .slice none 0 0] 49 (0, 0)) := by
  have hl := hv.lt
  rw [h.block _ (by rw [boxed_size]; omega) (by omega)]
  have := heap_new (w.alloc (.cells #[.pointer (some ⟨B, 0, none⟩)] 247)) (.cells #[.int .u8 0, .int .u8 0, .int .i64 0, .int .i64 0, .int .u64 0, .slice none 0 0] 49)
  rwa [World.size_alloc] at this
theorem res_cells (hv : Var B w v) (h : Upd B (boxed B w) w1 v1) :
    (w1.cell? ⟨w.heap.size + 1, 0, none⟩ = some (.int .u8 0) ∧ w1.cell? ⟨w.heap.size + 1, 1, none⟩ = some (.int .u8 0) ∧ w1.cell? ⟨w.heap.size + 1, 2, none⟩ = some (.int .i64 0) ∧ w1.cell? ⟨w.heap.size + 1, 3, none⟩ = some (.int .i64 0) ∧ w1.cell? ⟨w.heap.size + 1, 4, none⟩ = some (.int .u64 0) ∧ w1.cell? ⟨w.heap.size + 1, 5, none⟩ = some (.slice none 0 0)) ∧
    (w1.frozen? ⟨w.heap.size + 1, 0, none⟩ = false ∧ w1.frozen? ⟨w.heap.size + 1, 1, none⟩ = false ∧ w1.frozen? ⟨w.heap.size + 1, 2, none⟩ = false ∧ w1.frozen? ⟨w.heap.size + 1, 3, none⟩ = false ∧ w1.frozen? ⟨w.heap.size + 1, 4, none⟩ = false ∧ w1.frozen? ⟨w.heap.size + 1, 5, none⟩ = false) := by
  have hr := res_block hv h
  simp [World.cell?, World.frozen?, hr]
theorem boxed_upd (hv : Var B w v) (h : Upd B (boxed B w) w1 v1) : Upd B w w1 v1 := (Upd.of_below hv (boxed_below B w)).trans h
theorem boxed_lt (h : Upd B (boxed B w) w1 v1) : w.heap.size + 1 < w1.heap.size := by have := h.size; rw [boxed_size] at this; omega
end

/-- The six cells of the result, written. -/
abbrev six (w1 : World) (q : Nat) (a : ActD) (u : Value) : World :=
  (((((w1.setCell ⟨q, 0, none⟩ (.int .u8 a.kind)).setCell ⟨q, 1, none⟩ (.int .u8 a.mode)).setCell ⟨q, 2, none⟩ (.int .i64 a.p)).setCell ⟨q, 3, none⟩ (.int .i64 a.n)).setCell ⟨q, 4, none⟩ (.int .u64 a.version)).setCell ⟨q, 5, none⟩ u

theorem act_close {B N : Nat} {w w1 : World} {v v1 u : Value} {rest : List ByteArray} (a : ActD) (hv : Var B w v) (hN : N < w.heap.size ∧ N ≠ B) (hu : Upd B (boxed B w) w1 v1) (hq : Ws B N w1 v1 rest) (hz : Short rest)
    (hb : BytesOf (boxed B w) w1 u a.data) : ActP B N w (.ok a (lst rest)) (.returned (actV a u)) (six w1 (w.heap.size + 1) a u) := by
  have hl := hv.lt
  have h0 := boxed_upd hv hu
  refine ⟨rest, u, v1, rfl, hz, rfl, ?_, ?_, ?_⟩
  · exact (((((h0.setCell hl (by simp) _).setCell hl (by simp) _).setCell hl (by simp) _).setCell hl (by simp) _).setCell hl (by simp) _).setCell hl (by simp) _
  · refine hq.keep (by simp [six, World.setCell]) ?_
    have h := hN.1
    simp only [six]
    rw [Below.heap_setCell _ _ _ _ (by simp; omega), Below.heap_setCell _ _ _ _ (by simp; omega), Below.heap_setCell _ _ _ _ (by simp; omega), Below.heap_setCell _ _ _ _ (by simp; omega), Below.heap_setCell _ _ _ _ (by simp; omega), Below.heap_setCell _ _ _ _ (by simp; omega)]
  · have hs := boxed_size B w
    have h1 : ∀ k, (boxed B w).heap.size ≤ k → k ≠ w.heap.size + 1 := fun k hk => by omega
    exact Kd.V_mono (Kd.V_far (Kd.V_far (Kd.V_far (Kd.V_far (Kd.V_far (Kd.V_far hb h1 _) h1 _) h1 _) h1 _) h1 _) h1 _) (fun k hk => by omega)

theorem num_le {most n : Nat} {l r : List (List UInt8)} (h : num most l = some (n, r)) : n ≤ most := by
  cases l with
  | nil => cases h
  | cons s t =>
    obtain ⟨m, hm, he⟩ := Option.map_eq_some_iff.1 h
    cases he
    exact number_le hm

theorem takeN_some {α : Type} {most n : Nat} {l r : List (List UInt8)} {f : Nat → List (List UInt8) → Out α} (h : num most l = some (n, r)) : takeN most l f = f n r := by simp [takeN, h]
theorem takeN_none {α : Type} {most : Nat} {l : List (List UInt8)} {f : Nat → List (List UInt8) → Out α} (h : num most l = none) : takeN most l f = .bad 3 := by simp [takeN, h]
theorem takeT_some {α : Type} {xs : List Int} {l r : List (List UInt8)} {f : List Int → List (List UInt8) → Out α} (h : txt l = some (xs, r)) : takeT l f = f xs r := by simp [takeT, h]
theorem takeT_none {α : Type} {l : List (List UInt8)} {f : List Int → List (List UInt8) → Out α} (h : txt l = none) : takeT l f = .bad 3 := by simp [takeT, h]

/-- What the walks of 'act' take as it comes. -/
theorem run_mf (fn : Fn) (first cap : Array Value) (w : World) : (Instr.makeFunc fn first cap).run Tryz.prog w = .ok (.func fn first cap) w := rfl

-- THE KINDS
set_option maxRecDepth 100000 in
theorem act_begin (B : Nat) {N : Nat} (v : Value) (s : ByteArray) (ss : List ByteArray) (w : World) (hv : Var B w v) (hs : Ws B N w v (s :: ss)) (hz : Short ss) (hk : s.toList = [98, 101, 103, 105, 110]) :
    Calls Tryz.prog 99 #[.pointer (some ⟨B, 0, none⟩)] w (ActP B N w (.ok ⟨3, 0, 0, 0, 0, []⟩ (lst ss))) := by
  have hmf := run_mf
  have hv0 := boxed_var hv
  have hs0 := boxed_ws hs
  have hN := hs.2.1
  go_enter Tryz.func99, Tryz.ntmps99
  go_wp2_with fail
  refine (next_cons B v s ss _ hv0 hs0).mono ?_
  rintro e w1 ⟨rfl, v1, hu1, hq1⟩
  obtain ⟨⟨c0, c1, c2, c3, c4, c5⟩, f0, f1, f2, f3, f4, f5⟩ := res_cells hv hu1
  go_wp2
  exact bodyPost_ret (v := actV ⟨3, 0, 0, 0, 0, []⟩ (.slice none 0 0)) (by simp [results, Tryz.results99, go_sem, c0, c1, c2, c3, c4, c5]) rfl (by exact act_close _ hv hN hu1 hq1 hz (Kd.V_nil _ _ _ _ _))

set_option maxRecDepth 100000 in
theorem act_commit (B : Nat) {N : Nat} (v : Value) (s : ByteArray) (ss : List ByteArray) (w : World) (hv : Var B w v) (hs : Ws B N w v (s :: ss)) (hz : Short ss) (hk : s.toList = [99, 111, 109, 109, 105, 116]) :
    Calls Tryz.prog 99 #[.pointer (some ⟨B, 0, none⟩)] w (ActP B N w (.ok ⟨4, 0, 0, 0, 0, []⟩ (lst ss))) := by
  have hmf := run_mf
  have hv0 := boxed_var hv
  have hs0 := boxed_ws hs
  have hN := hs.2.1
  go_enter Tryz.func99, Tryz.ntmps99
  go_wp2_with fail
  refine (next_cons B v s ss _ hv0 hs0).mono ?_
  rintro e w1 ⟨rfl, v1, hu1, hq1⟩
  obtain ⟨⟨c0, c1, c2, c3, c4, c5⟩, f0, f1, f2, f3, f4, f5⟩ := res_cells hv hu1
  go_wp2
  exact bodyPost_ret (v := actV ⟨4, 0, 0, 0, 0, []⟩ (.slice none 0 0)) (by simp [results, Tryz.results99, go_sem, c0, c1, c2, c3, c4, c5]) rfl (by exact act_close _ hv hN hu1 hq1 hz (Kd.V_nil _ _ _ _ _))

set_option maxRecDepth 100000 in
theorem act_cancel (B : Nat) {N : Nat} (v : Value) (s : ByteArray) (ss : List ByteArray) (w : World) (hv : Var B w v) (hs : Ws B N w v (s :: ss)) (hz : Short ss) (hk : s.toList = [99, 97, 110, 99, 101, 108]) :
    Calls Tryz.prog 99 #[.pointer (some ⟨B, 0, none⟩)] w (ActP B N w (.ok ⟨5, 0, 0, 0, 0, []⟩ (lst ss))) := by
  have hmf := run_mf
  have hv0 := boxed_var hv
  have hs0 := boxed_ws hs
  have hN := hs.2.1
  go_enter Tryz.func99, Tryz.ntmps99
  go_wp2_with fail
  refine (next_cons B v s ss _ hv0 hs0).mono ?_
  rintro e w1 ⟨rfl, v1, hu1, hq1⟩
  obtain ⟨⟨c0, c1, c2, c3, c4, c5⟩, f0, f1, f2, f3, f4, f5⟩ := res_cells hv hu1
  go_wp2
  exact bodyPost_ret (v := actV ⟨5, 0, 0, 0, 0, []⟩ (.slice none 0 0)) (by simp [results, Tryz.results99, go_sem, c0, c1, c2, c3, c4, c5]) rfl (by exact act_close _ hv hN hu1 hq1 hz (Kd.V_nil _ _ _ _ _))

set_option maxRecDepth 100000 in
theorem act_image (B : Nat) {N : Nat} (v : Value) (s : ByteArray) (ss : List ByteArray) (w : World) (hv : Var B w v) (hs : Ws B N w v (s :: ss)) (hz : Short ss) (hk : s.toList = [105, 109, 97, 103, 101]) :
    Calls Tryz.prog 99 #[.pointer (some ⟨B, 0, none⟩)] w (ActP B N w (.ok ⟨9, 0, 0, 0, 0, []⟩ (lst ss))) := by
  have hmf := run_mf
  have hv0 := boxed_var hv
  have hs0 := boxed_ws hs
  have hN := hs.2.1
  go_enter Tryz.func99, Tryz.ntmps99
  go_wp2_with fail
  refine (next_cons B v s ss _ hv0 hs0).mono ?_
  rintro e w1 ⟨rfl, v1, hu1, hq1⟩
  obtain ⟨⟨c0, c1, c2, c3, c4, c5⟩, f0, f1, f2, f3, f4, f5⟩ := res_cells hv hu1
  go_wp2
  exact bodyPost_ret (v := actV ⟨9, 0, 0, 0, 0, []⟩ (.slice none 0 0)) (by simp [results, Tryz.results99, go_sem, c0, c1, c2, c3, c4, c5]) rfl (by exact act_close _ hv hN hu1 hq1 hz (Kd.V_nil _ _ _ _ _))

set_option maxRecDepth 100000 in
theorem act_status (B : Nat) {N : Nat} (v : Value) (s : ByteArray) (ss : List ByteArray) (w : World) (hv : Var B w v) (hs : Ws B N w v (s :: ss)) (hz : Short ss) (hk : s.toList = [115, 116, 97, 116, 117, 115]) :
    Calls Tryz.prog 99 #[.pointer (some ⟨B, 0, none⟩)] w (ActP B N w (.ok ⟨10, 0, 0, 0, 0, []⟩ (lst ss))) := by
  have hmf := run_mf
  have hv0 := boxed_var hv
  have hs0 := boxed_ws hs
  have hN := hs.2.1
  go_enter Tryz.func99, Tryz.ntmps99
  go_wp2_with fail
  refine (next_cons B v s ss _ hv0 hs0).mono ?_
  rintro e w1 ⟨rfl, v1, hu1, hq1⟩
  obtain ⟨⟨c0, c1, c2, c3, c4, c5⟩, f0, f1, f2, f3, f4, f5⟩ := res_cells hv hu1
  go_wp2
  exact bodyPost_ret (v := actV ⟨10, 0, 0, 0, 0, []⟩ (.slice none 0 0)) (by simp [results, Tryz.results99, go_sem, c0, c1, c2, c3, c4, c5]) rfl (by exact act_close _ hv hN hu1 hq1 hz (Kd.V_nil _ _ _ _ _))

set_option maxRecDepth 100000 in
theorem act_fuse (B : Nat) {N : Nat} (v : Value) (s : ByteArray) (ss : List ByteArray) (w : World) (hG : Glb w) (hB : 8 ≤ B) (hv : Var B w v) (hs : Ws B N w v (s :: ss)) (hz : Short ss) (hk : s.toList = [102, 117, 115, 101]) :
    Calls Tryz.prog 99 #[.pointer (some ⟨B, 0, none⟩)] w (ActP B N w (takeN 2147483647 (lst ss) fun n r => .ok ⟨6, 0, 0, n, 0, []⟩ r)) := by
  have hmf := run_mf
  have hv0 := boxed_var hv
  have hs0 := boxed_ws hs
  have hG0 := boxed_glb (B := B) hG
  have hN := hs.2.1
  go_enter Tryz.func99, Tryz.ntmps99
  go_wp2_with fail
  refine (next_cons B v s ss _ hv0 hs0).mono ?_
  rintro e w1 ⟨rfl, v1, hu1, hq1⟩
  have hb1 := box_of hv hu1
  go_wp2_with fail
  refine (act1_any B w.heap.size v1 ss _ hb1 (hG0.upd hu1 hB) hB hu1.var hq1 hz).mono ?_
  rintro e w2 (⟨n, r2, e2, hz2, rfl, v2, u2, hq2⟩ | ⟨e2, rfl, v2, u2⟩)
  rotate_left
  · have hE := e2; clear e2; go_wp2; exact ⟨rfl, by rw [takeN_none hE]; exact ⟨rfl, _, boxed_upd hv (hu1.trans u2)⟩⟩
  have hu2 := hu1.trans u2
  have E2 := Lib.hid e2
  clear e2
  have b2 : n ≤ 2147483647 := num_le E2.out
  obtain ⟨⟨c0, c1, c2, c3, c4, c5⟩, f0, f1, f2, f3, f4, f5⟩ := res_cells hv hu2
  go_wp2
  exact bodyPost_ret (v := actV ⟨6, 0, 0, n, 0, []⟩ (.slice none 0 0)) (by simp [results, Tryz.results99, go_sem, c0, c1, c2, c3, c4, c5]) rfl (by rw [takeN_some E2.out]; exact act_close _ hv hN hu2 hq2 hz2 (Kd.V_nil _ _ _ _ _))

set_option maxRecDepth 100000 in
theorem act_feed (B : Nat) {N : Nat} (v : Value) (s : ByteArray) (ss : List ByteArray) (w : World) (hG : Glb w) (hB : 8 ≤ B) (hv : Var B w v) (hs : Ws B N w v (s :: ss)) (hz : Short ss) (hk : s.toList = [102, 101, 101, 100]) :
    Calls Tryz.prog 99 #[.pointer (some ⟨B, 0, none⟩)] w (ActP B N w (takeN 2147483647 (lst ss) fun p r => takeN 2147483647 r fun n r => .ok ⟨2, 0, p, n, 0, []⟩ r)) := by
  have hmf := run_mf
  have hv0 := boxed_var hv
  have hs0 := boxed_ws hs
  have hG0 := boxed_glb (B := B) hG
  have hN := hs.2.1
  go_enter Tryz.func99, Tryz.ntmps99
  go_wp2_with fail
  refine (next_cons B v s ss _ hv0 hs0).mono ?_
  rintro e w1 ⟨rfl, v1, hu1, hq1⟩
  have hb1 := box_of hv hu1
  go_wp2_with fail
  refine (act1_any B w.heap.size v1 ss _ hb1 (hG0.upd hu1 hB) hB hu1.var hq1 hz).mono ?_
  rintro e w2 (⟨p, r2, e2, hz2, rfl, v2, u2, hq2⟩ | ⟨e2, rfl, v2, u2⟩)
  rotate_left
  · have hE := e2; clear e2; go_wp2; exact ⟨rfl, by rw [takeN_none hE]; exact ⟨rfl, _, boxed_upd hv (hu1.trans u2)⟩⟩
  have hu2 := hu1.trans u2
  have E2 := Lib.hid e2
  clear e2
  have b2 : p ≤ 2147483647 := num_le E2.out
  have hb2 := box_of hv hu2
  go_wp2_with fail
  refine (act1_any B w.heap.size v2 r2 _ hb2 (hG0.upd hu2 hB) hB hu2.var hq2 hz2).mono ?_
  rintro e w3 (⟨n, r3, e3, hz3, rfl, v3, u3, hq3⟩ | ⟨e3, rfl, v3, u3⟩)
  rotate_left
  · have hE := e3; clear e3; go_wp2; exact ⟨rfl, by rw [takeN_some E2.out, takeN_none hE]; exact ⟨rfl, _, boxed_upd hv (hu2.trans u3)⟩⟩
  have hu3 := hu2.trans u3
  have E3 := Lib.hid e3
  clear e3
  have b3 : n ≤ 2147483647 := num_le E3.out
  obtain ⟨⟨c0, c1, c2, c3, c4, c5⟩, f0, f1, f2, f3, f4, f5⟩ := res_cells hv hu3
  go_wp2
  exact bodyPost_ret (v := actV ⟨2, 0, p, n, 0, []⟩ (.slice none 0 0)) (by simp [results, Tryz.results99, go_sem, c0, c1, c2, c3, c4, c5]) rfl (by rw [takeN_some E2.out, takeN_some E3.out]; exact act_close _ hv hN hu3 hq3 hz3 (Kd.V_nil _ _ _ _ _))

set_option maxRecDepth 100000 in
theorem act_spoil (B : Nat) {N : Nat} (v : Value) (s : ByteArray) (ss : List ByteArray) (w : World) (hG : Glb w) (hB : 8 ≤ B) (hv : Var B w v) (hs : Ws B N w v (s :: ss)) (hz : Short ss) (hk : s.toList = [115, 112, 111, 105, 108]) :
    Calls Tryz.prog 99 #[.pointer (some ⟨B, 0, none⟩)] w (ActP B N w (takeN 2147483647 (lst ss) fun p r => takeN 2147483647 r fun n r => takeN 255 r fun m r => .ok ⟨8, m, p, n, 0, []⟩ r)) := by
  have hmf := run_mf
  have hv0 := boxed_var hv
  have hs0 := boxed_ws hs
  have hG0 := boxed_glb (B := B) hG
  have hN := hs.2.1
  go_enter Tryz.func99, Tryz.ntmps99
  go_wp2_with fail
  refine (next_cons B v s ss _ hv0 hs0).mono ?_
  rintro e w1 ⟨rfl, v1, hu1, hq1⟩
  have hb1 := box_of hv hu1
  go_wp2_with fail
  refine (act1_any B w.heap.size v1 ss _ hb1 (hG0.upd hu1 hB) hB hu1.var hq1 hz).mono ?_
  rintro e w2 (⟨p, r2, e2, hz2, rfl, v2, u2, hq2⟩ | ⟨e2, rfl, v2, u2⟩)
  rotate_left
  · have hE := e2; clear e2; go_wp2; exact ⟨rfl, by rw [takeN_none hE]; exact ⟨rfl, _, boxed_upd hv (hu1.trans u2)⟩⟩
  have hu2 := hu1.trans u2
  have E2 := Lib.hid e2
  clear e2
  have b2 : p ≤ 2147483647 := num_le E2.out
  have hb2 := box_of hv hu2
  go_wp2_with fail
  refine (act1_any B w.heap.size v2 r2 _ hb2 (hG0.upd hu2 hB) hB hu2.var hq2 hz2).mono ?_
  rintro e w3 (⟨n, r3, e3, hz3, rfl, v3, u3, hq3⟩ | ⟨e3, rfl, v3, u3⟩)
  rotate_left
  · have hE := e3; clear e3; go_wp2; exact ⟨rfl, by rw [takeN_some E2.out, takeN_none hE]; exact ⟨rfl, _, boxed_upd hv (hu2.trans u3)⟩⟩
  have hu3 := hu2.trans u3
  have E3 := Lib.hid e3
  clear e3
  have b3 : n ≤ 2147483647 := num_le E3.out
  have hb3 := box_of hv hu3
  go_wp2_with fail
  refine (number_any B v3 r3 _ 255 rfl _ (hG0.upd hu3 hB) hB hu3.var hq3 hz3 (by decide)).mono ?_
  rintro e w4 (⟨m, r4, e4, hz4, rfl, v4, u4, hq4⟩ | ⟨e4, rfl, v4, u4⟩)
  rotate_left
  · have hE := e4; clear e4; go_wp2; exact ⟨rfl, by rw [takeN_some E2.out, takeN_some E3.out, takeN_none hE]; exact ⟨rfl, _, boxed_upd hv (hu3.trans u4)⟩⟩
  have hu4 := hu3.trans u4
  have E4 := Lib.hid e4
  clear e4
  have b4 : m ≤ 255 := num_le E4.out
  obtain ⟨⟨c0, c1, c2, c3, c4, c5⟩, f0, f1, f2, f3, f4, f5⟩ := res_cells hv hu4
  go_wp2
  exact bodyPost_ret (v := actV ⟨8, m, p, n, 0, []⟩ (.slice none 0 0)) (by simp [results, Tryz.results99, go_sem, c0, c1, c2, c3, c4, c5]) rfl (by rw [takeN_some E2.out, takeN_some E3.out, takeN_some E4.out]; exact act_close _ hv hN hu4 hq4 hz4 (Kd.V_nil _ _ _ _ _))

set_option maxRecDepth 100000 in
theorem act_fall (B : Nat) {N : Nat} (v : Value) (s : ByteArray) (ss : List ByteArray) (w : World) (hv : Var B w v) (hs : Ws B N w v (s :: ss)) (hz : Short ss) (hk : s.toList = [102, 97, 108, 108]) :
    Calls Tryz.prog 99 #[.pointer (some ⟨B, 0, none⟩)] w (ActP B N w (takeT (lst ss) fun d r => .ok ⟨7, 0, 0, 0, 0, d⟩ r)) := by
  have hmf := run_mf
  have hv0 := boxed_var hv
  have hs0 := boxed_ws hs
  have hN := hs.2.1
  go_enter Tryz.func99, Tryz.ntmps99
  go_wp2_with fail
  refine (next_cons B v s ss _ hv0 hs0).mono ?_
  rintro e w1 ⟨rfl, v1, hu1, hq1⟩
  have hb1 := box_of hv hu1
  go_wp2_with fail
  refine (text_any B v1 ss _ hu1.var hq1 hz).mono ?_
  rintro e w2 (⟨d, r2, e2, hz2, d2, v2, rfl, u2, hq2, hd2⟩ | ⟨e2, rfl, v2, u2⟩)
  rotate_left
  · have hE := e2; clear e2; go_wp2; exact ⟨rfl, by rw [takeT_none hE]; exact ⟨rfl, _, boxed_upd hv (hu1.trans u2)⟩⟩
  have hu2 := hu1.trans u2
  have E2 := Lib.hid e2
  clear e2
  have hd := Kd.V_mono hd2 (fun q hq => Nat.le_trans hu1.size hq)
  obtain ⟨A, c, rfl⟩ := Kd.V_slice hd
  obtain ⟨⟨c0, c1, c2, c3, c4, c5⟩, f0, f1, f2, f3, f4, f5⟩ := res_cells hv hu2
  go_wp2
  exact bodyPost_ret (v := actV ⟨7, 0, 0, 0, 0, d⟩ (.slice A d.length c)) (by simp [results, Tryz.results99, go_sem, c0, c1, c2, c3, c4, c5]) rfl (by rw [takeT_some E2.out]; exact act_close _ hv hN hu2 hq2 hz2 (hd))

set_option maxRecDepth 100000 in
theorem act_build (B : Nat) {N : Nat} (v : Value) (s : ByteArray) (ss : List ByteArray) (w : World) (hG : Glb w) (hB : 8 ≤ B) (hv : Var B w v) (hs : Ws B N w v (s :: ss)) (hz : Short ss) (hk : s.toList = [98, 117, 105, 108, 100]) :
    Calls Tryz.prog 99 #[.pointer (some ⟨B, 0, none⟩)] w (ActP B N w (takeN 255 (lst ss) fun m r => takeN 2147483647 r fun v r => takeT r fun d r => .ok ⟨1, m, 0, 0, v, d⟩ r)) := by
  have hmf := run_mf
  have hv0 := boxed_var hv
  have hs0 := boxed_ws hs
  have hG0 := boxed_glb (B := B) hG
  have hN := hs.2.1
  go_enter Tryz.func99, Tryz.ntmps99
  go_wp2_with fail
  refine (next_cons B v s ss _ hv0 hs0).mono ?_
  rintro e w1 ⟨rfl, v1, hu1, hq1⟩
  have hb1 := box_of hv hu1
  go_wp2_with fail
  refine (number_any B v1 ss _ 255 rfl _ (hG0.upd hu1 hB) hB hu1.var hq1 hz (by decide)).mono ?_
  rintro e w2 (⟨m, r2, e2, hz2, rfl, v2, u2, hq2⟩ | ⟨e2, rfl, v2, u2⟩)
  rotate_left
  · have hE := e2; clear e2; go_wp2; exact ⟨rfl, by rw [takeN_none hE]; exact ⟨rfl, _, boxed_upd hv (hu1.trans u2)⟩⟩
  have hu2 := hu1.trans u2
  have E2 := Lib.hid e2
  clear e2
  have b2 : m ≤ 255 := num_le E2.out
  have hb2 := box_of hv hu2
  go_wp2_with fail
  refine (act1_any B w.heap.size v2 r2 _ hb2 (hG0.upd hu2 hB) hB hu2.var hq2 hz2).mono ?_
  rintro e w3 (⟨x, r3, e3, hz3, rfl, v3, u3, hq3⟩ | ⟨e3, rfl, v3, u3⟩)
  rotate_left
  · have hE := e3; clear e3; go_wp2; exact ⟨rfl, by rw [takeN_some E2.out, takeN_none hE]; exact ⟨rfl, _, boxed_upd hv (hu2.trans u3)⟩⟩
  have hu3 := hu2.trans u3
  have E3 := Lib.hid e3
  clear e3
  have b3 : x ≤ 2147483647 := num_le E3.out
  have hb3 := box_of hv hu3
  go_wp2_with fail
  refine (text_any B v3 r3 _ hu3.var hq3 hz3).mono ?_
  rintro e w4 (⟨d, r4, e4, hz4, d4, v4, rfl, u4, hq4, hd4⟩ | ⟨e4, rfl, v4, u4⟩)
  rotate_left
  · have hE := e4; clear e4; go_wp2; exact ⟨rfl, by rw [takeN_some E2.out, takeN_some E3.out, takeT_none hE]; exact ⟨rfl, _, boxed_upd hv (hu3.trans u4)⟩⟩
  have hu4 := hu3.trans u4
  have E4 := Lib.hid e4
  clear e4
  have hd := Kd.V_mono hd4 (fun q hq => Nat.le_trans hu3.size hq)
  obtain ⟨A, c, rfl⟩ := Kd.V_slice hd
  obtain ⟨⟨c0, c1, c2, c3, c4, c5⟩, f0, f1, f2, f3, f4, f5⟩ := res_cells hv hu4
  go_wp2
  exact bodyPost_ret (v := actV ⟨1, m, 0, 0, x, d⟩ (.slice A d.length c)) (by simp [results, Tryz.results99, go_sem, c0, c1, c2, c3, c4, c5]) rfl (by rw [takeN_some E2.out, takeN_some E3.out, takeT_some E4.out]; exact act_close _ hv hN hu4 hq4 hz4 (hd))

end Go.Proofs.YtccnmbfigpjkaaaGreatDoor
