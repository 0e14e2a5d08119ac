/-
  DERIVED. The words of a line: what '(*words).next' and '(*words).ended' do, for any words that a variable holds. No condition beside the shape of the slice.
  DERIVED. script.Unhex, for every string of at most 2^40 bytes: the bytes of a text, or none.
  DERIVED. What a number of a line is: '(*words).number', over strconv.ParseUint and strconv.FormatUint. The world holds the library's tables and errors as the row lists them.
-/
import Derived.Test.YtccnmbfigpjkaaaGreatDoorSh
import Derived.WalkKit
import Derived.Below
import Derived.OneCell
import Derived.Lib.Hide
import Derived.WalkLawsBesides
import Derived.WalkSpells
import Derived.OwnWalk
import Derived.Test.YtccnmbfigpjkaaaGreatDoorPl
import Derived.Test.YtccnmbfigpjkaaaGreatDoorWMore
import Derived.Deep.QuietTactic
import Derived.BigQuiet
import Derived.Deep.LoopGhost
import Derived.Maps.AppendAt
import Derived.IntWalk
import Derived.Lib.AppendIntMem
import Derived.Lib.LaidTab
import Derived.WalkSmall
import Derived.Shelf.Strconv.Itoa3
namespace Go.Proofs.YtccnmbfigpjkaaaGreatDoor
open Go.RowKit

/-- What a throw of 'stop' carries. -/
abbrev stopV (n : Int) : Value := .iface 180 (.agg #[.int .i64 n])
abbrev thrown (n : Int) : Ending := .panicked [{ v := stopV n, recovered := false }]

/-- Value v is a slice of strings that reads as ss, in block N, which is not B. -/
def Ws (B N : Nat) (w : World) (v : Value) (ss : List ByteArray) : Prop :=
  ss.length < 9223372036854775807 ∧ (N < w.heap.size ∧ N ≠ B) ∧ ∃ A c, v = .slice A ss.length c ∧ ss.length ≤ c ∧ (ss ≠ [] → ∃ o, A = some ⟨N, o, none⟩ ∧ ∀ i (h : i < ss.length), w.cell? ⟨N, o + i, none⟩ = some (.string ss[i]))

/-- The variable that holds the words: block B is one cell. -/
def Var (B : Nat) (w : World) (v : Value) : Prop := w.heap[B]? = some (.cells #[v] 177 (0, 0))

/-- w' is w but for block B, which holds v, and new blocks. -/
structure Upd (B : Nat) (w w' : World) (v : Value) : Prop where
  os : w'.os = w.os
  tape : w'.tape = w.tape
  output : w'.output = w.output
  size : w.heap.size ≤ w'.heap.size
  block : ∀ k, k < w.heap.size → k ≠ B → w'.heap[k]? = w.heap[k]?
  var : Var B w' v

def Ret (B N : Nat) (w : World) (v : Value) (rest : List ByteArray) (e : Ending) (w' : World) : Prop := e = .returned v ∧ ∃ v', Upd B w w' v' ∧ Ws B N w' v' rest
def Thr (B : Nat) (w : World) (n : Int) (e : Ending) (w' : World) : Prop := e = thrown n ∧ ∃ v', Upd B w w' v'

section
variable {B N : Nat} {w w1 w2 : World} {v v1 v2 : Value} {ss : List ByteArray}
theorem Var.cell (h : Var B w v) : w.cell? ⟨B, 0, none⟩ = some v := cell_of_one h
theorem Var.free (h : Var B w v) : w.frozen? ⟨B, 0, none⟩ = false := free_of_one h
theorem Var.lt (h : Var B w v) : B < w.heap.size := lt_of_block h
theorem Upd.refl (h : Var B w v) : Upd B w w v := ⟨rfl, rfl, rfl, Nat.le_refl _, fun _ _ _ => rfl, h⟩
theorem Upd.set (h : Var B w v) (u : Value) : Upd B w (w.setCell ⟨B, 0, none⟩ u) u :=
  ⟨rfl, rfl, rfl, by simp [World.setCell], fun k _ hk => Below.heap_setCell w _ u k hk, one_setCell h⟩
theorem Upd.trans (h : Upd B w w1 v1) (k : Upd B w1 w2 v2) : Upd B w w2 v2 :=
  ⟨k.os.trans h.os, k.tape.trans h.tape, k.output.trans h.output, Nat.le_trans h.size k.size, fun i hi hb => (k.block i (Nat.lt_of_lt_of_le hi h.size) hb).trans (h.block i hi hb), k.var⟩
theorem Var.below (h : Var B w v) (k : Below w.heap.size w w1) : Var B w1 v := (k.block B h.lt).trans h
theorem Upd.below (h : Upd B w w1 v) (k : Below w1.heap.size w1 w2) : Upd B w w2 v :=
  ⟨k.os.trans h.os, k.tape.trans h.tape, k.output.trans h.output, Nat.le_trans h.size k.size, fun i hi hb => (k.block i (Nat.lt_of_lt_of_le hi h.size)).trans (h.block i hi hb), h.var.below k⟩
theorem Upd.of_below (h : Var B w v) (k : Below w.heap.size w w1) : Upd B w w1 v := (Upd.refl h).below k
/-- Below a bound that B is not below. -/
theorem Upd.down (h : Upd B w w1 v) {N : Nat} (hN : N ≤ w.heap.size) (hB : N ≤ B) : Below N w w1 := ⟨h.os, h.tape, h.output, h.size, fun k hk => h.block k (by omega) (by omega)⟩
theorem Upd.cell (h : Upd B w w1 v) {b o : Nat} (hb : b < w.heap.size) (hB : b ≠ B) : w1.cell? ⟨b, o, none⟩ = w.cell? ⟨b, o, none⟩ := World.cell?_of_block (w := w) (h.block b hb hB)
theorem Ws.keep (h : Ws B N w v ss) (hs : w.heap.size ≤ w1.heap.size) (hk : w1.heap[N]? = w.heap[N]?) : Ws B N w1 v ss := by
  obtain ⟨h0, ⟨hN, hB⟩, A, c, e, hc, hx⟩ := h
  refine ⟨h0, ⟨Nat.lt_of_lt_of_le hN hs, hB⟩, A, c, e, hc, fun hn => ?_⟩
  obtain ⟨o, ha, hs⟩ := hx hn
  exact ⟨o, ha, fun i hi => (World.cell?_of_block (w := w) hk).trans (hs i hi)⟩
theorem Ws.upd (h : Ws B N w v ss) (k : Upd B w w1 v1) : Ws B N w1 v ss := h.keep k.size (k.block N h.2.1.1 h.2.1.2)
theorem Ws.below (h : Ws B N w v ss) (hb : Below w.heap.size w w1) : Ws B N w1 v ss := h.keep hb.size (hb.block N h.2.1.1)
end

set_option maxRecDepth 100000 in
/-- next, of no words: it throws. -/
theorem next_nil (B : Nat) {N : Nat} (v : Value) (w : World) (hv : Var B w v) (hs : Ws B N w v []) :
    Calls Tryz.prog 95 #[.pointer (some ⟨B, 0, none⟩)] w (Thr B w 3) := by
  obtain ⟨_, _, A, c, rfl, _, _⟩ := hs
  have hc := hv.cell
  go_enter Tryz.func95, Tryz.ntmps95
  go_wp2
  exact ⟨rfl, rfl, _, Upd.refl hv⟩

set_option maxRecDepth 100000 in
/-- next: the first word; the variable holds the others. -/
theorem next_cons (B : Nat) {N : Nat} (v : Value) (s : ByteArray) (ss : List ByteArray) (w : World) (hv : Var B w v) (hs : Ws B N w v (s :: ss)) :
    Calls Tryz.prog 95 #[.pointer (some ⟨B, 0, none⟩)] w (Ret B N w (.string s) ss) := by
  obtain ⟨h0, ⟨hN, hNB⟩, A, c, rfl, hcap, hx⟩ := hs
  obtain ⟨o, rfl, hcell⟩ := hx (by simp)
  have hc := hv.cell
  have hf := hv.free
  have h1 := hcell 0 (by simp)
  simp only [Nat.add_zero, List.getElem_cons_zero] at h1
  simp only [List.length_cons] at hcap h0
  have hq : Ws B N (w.setCell ⟨B, 0, none⟩ (.slice (if c = 1 then some ⟨N, o, none⟩ else some ⟨N, o + 1, none⟩) ss.length (c - 1))) (.slice (if c = 1 then some ⟨N, o, none⟩ else some ⟨N, o + 1, none⟩) ss.length (c - 1)) ss := by
    refine ⟨by omega, ⟨by simpa [World.setCell] using hN, hNB⟩, _, _, rfl, by omega, fun hn => ⟨o + 1, ?_, fun i hi => ?_⟩⟩
    · have : 0 < ss.length := List.length_pos_iff.2 hn
      rw [if_neg (by omega)]
    · have := hcell (i + 1) (by simpa using hi)
      rw [List.getElem_cons_succ] at this
      rw [World.cell?_setCell_other _ _ _ _ (by simp only [ne_eq, Addr.mk.injEq]; omega), ← this, Nat.add_assoc, Nat.add_comm 1 i]
  have HQ := Lib.hid hq
  have HC := Lib.hid hcell
  clear hq hcell hx
  simp only [List.length_cons] at hc
  go_enter Tryz.func95, Tryz.ntmps95
  go_wp2
  all_goals
    go_ret
    refine ⟨rfl, _, Upd.set hv _, ?_⟩
    have h := HQ.out
    simpa only [*, if_true, if_false] using h

set_option maxRecDepth 100000 in
/-- ended, of no words. -/
theorem ended_nil (B : Nat) {N : Nat} (v : Value) (w : World) (hv : Var B w v) (hs : Ws B N w v []) :
    Calls Tryz.prog 98 #[.pointer (some ⟨B, 0, none⟩)] w (Ret B N w (.tuple #[]) []) := by
  have hs' := hs
  obtain ⟨_, _, A, c, rfl, _, _⟩ := hs
  have hc := hv.cell
  go_enter Tryz.func98, Tryz.ntmps98
  go_wp2
  go_end0
  exact ⟨rfl, _, Upd.refl hv, hs'⟩

set_option maxRecDepth 100000 in
/-- ended, of a word: it throws. -/
theorem ended_cons (B : Nat) {N : Nat} (v : Value) (s : ByteArray) (ss : List ByteArray) (w : World) (hv : Var B w v) (hs : Ws B N w v (s :: ss)) :
    Calls Tryz.prog 98 #[.pointer (some ⟨B, 0, none⟩)] w (Thr B w 3) := by
  obtain ⟨h0, _, A, c, rfl, _, _⟩ := hs
  have hc := hv.cell
  simp only [List.length_cons] at h0 hc
  go_enter Tryz.func98, Tryz.ntmps98
  go_wp2
  exact ⟨rfl, rfl, _, Upd.refl hv⟩
end Go.Proofs.YtccnmbfigpjkaaaGreatDoor

namespace Go.Proofs.YtccnmbfigpjkaaaGreatDoor
open Go.RowKit Go.Proofs.YtccnmbfigpjkaaaGreatDoorW.PrintWords
open Scr

theorem infoU8 : (Tryz.prog.info? 5).map (fun i => (i.zero, i.size, i.bytes)) = some (some (.int .u8 0), 1, 1) := by kernel_rfl

theorem size_list (s : ByteArray) : s.data.toList.length = s.size := rfl
theorem dot_beq {s : ByteArray} (h : ¬ s.data.toList = [46]) : (s.toList == [46]) = false := by rw [ByteArray.toList_eq]; exact beq_eq_false_iff_ne.2 h
theorem ne_empty {s : ByteArray} (h : ¬ s.data.toList = []) : s.toList.isEmpty = false := by rw [ByteArray.toList_eq]; exact List.isEmpty_eq_false_iff.2 h

/-- A byte's place among the digits. -/
def pl (x : Int) : Int := place x.toNat.toUInt8
theorem pl_calls (x : Int) (w : World) : Calls Tryz.prog 51 #[.string ⟨#[48, 49, 50, 51, 52, 53, 54, 55, 56, 57, 97, 98, 99, 100, 101, 102]⟩, .int .u8 x] w fun e w' => e = .returned (.int .i64 (pl x)) ∧ w' = w :=
  (Tryz.strings_IndexByte _ x w).mono fun e w' ⟨he, hw⟩ => ⟨by rw [he, pl, ← index_place]; rfl, hw⟩
theorem pl_some {a : UInt8} {x : Nat} (h : hexv a = some x) : pl (a.toNat : Int) = x := by
  unfold pl; rw [show (a.toNat : Int).toNat.toUInt8 = a from by simp [Nat.toUInt8]]; exact place_some h
theorem pl_none {a : UInt8} (h : hexv a = none) : pl (a.toNat : Int) = -1 := by
  unfold pl; rw [show (a.toNat : Int).toNat.toUInt8 = a from by simp [Nat.toUInt8]]; exact place_none h
theorem bt_nat {s : ByteArray} {i : Int} {k : Nat} (hi : i = k) (h : k < s.data.toList.length) : bt s i = ((s.data.toList[k]).toNat : Int) := by
  subst hi
  have h' : (k : Int).toNat < s.size := by rw [Int.toNat_natCast, ← size_list]; exact h
  rw [← bt_at s k h']
  simp
  rfl
/-- Two bytes at an even place. -/
theorem two_at {s : ByteArray} {i j : Int} {k : Nat} (hi : i = 2 * k) (hj : j = i + 1) (h : 2 * k + 1 < s.size) :
    ∃ a b : UInt8, bt s i = (a.toNat : Int) ∧ bt s j = (b.toNat : Int) ∧ s.data.toList.take (2 * (k + 1)) = s.data.toList.take (2 * k) ++ [a, b] ∧ s.data.toList = s.data.toList.take (2 * k) ++ a :: b :: s.data.toList.drop (2 * k + 2) := by
  have h0 : 2 * k + 1 < s.data.toList.length := h
  refine ⟨s.data.toList[2 * k], s.data.toList[2 * k + 1], bt_nat (by omega) (by omega), bt_nat (by omega) h0, ?_, ?_⟩
  · rw [show 2 * (k + 1) = 2 * k + 1 + 1 by omega, List.take_succ_eq_append_getElem h0, List.take_succ_eq_append_getElem (by omega), List.append_assoc]; rfl
  · rw [← List.drop_eq_getElem_cons h0, ← List.drop_eq_getElem_cons (by omega), List.take_append_drop]

/-- What Unhex hands back: a slice of the call's own. -/
def BytesNew (w : World) (xs : List Int) (ok : Bool) (e : Ending) (w' : World) : Prop :=
  ∃ v, e = .returned (.tuple #[v, .bool ok]) ∧ Kd.R (Kd.int .u8) 5 w' w.heap.size (fun _ => True) v xs ∧ Below w.heap.size w w'

theorem hexbits : ∀ (x y : Fin 16), Go.bits .or .i64 ((x.val : Int) * 16) (y.val : Int) = 16 * x.val + y.val := by decide +kernel


set_option maxRecDepth 100000 in
theorem unhex_dot (s : ByteArray) (w : World) (hd : s.data.toList = [46]) : Calls Tryz.prog 155 #[.string s] w (BytesNew w [] true) := by
  have h1 : (s.toList == [46]) = true := by rw [ByteArray.toList_eq]; simp [hd]
  clear hd
  go_enter Tryz.func155, Tryz.ntmps155
  go_wp2
  go_ret2
  exact ⟨_, rfl, Kd.R_nil _ _ _ _ _, Below.refl _ _⟩

set_option maxRecDepth 100000 in
theorem unhex_empty (s : ByteArray) (w : World) (hd : s.data.toList = []) : Calls Tryz.prog 155 #[.string s] w (BytesNew w [] false) := by
  have h1 : (s.toList == [46]) = false := by rw [ByteArray.toList_eq]; simp [hd]
  have h2 : (s.toList == []) = true := by rw [ByteArray.toList_eq]; simp [hd]
  have h3 : s.toList.isEmpty = true := by rw [ByteArray.toList_eq]; simp [hd]
  have h4 : s.toList = [] := by rw [ByteArray.toList_eq]; exact hd
  clear hd
  go_enter Tryz.func155, Tryz.ntmps155
  go_wp2
  go_ret2
  exact ⟨_, rfl, Kd.R_nil _ _ _ _ _, Below.refl _ _⟩

set_option maxRecDepth 100000 in
theorem unhex_odd (s : ByteArray) (w : World) (hs : s.size ≤ 1099511627776) (h0 : ¬ s.data.toList = [46]) (ho : s.size % 2 = 1) : Calls Tryz.prog 155 #[.string s] w (BytesNew w [] false) := by
  have hn : ¬ s.data.toList = [] := fun e => by have h := congrArg List.length e; rw [size_list, List.length_nil] at h; omega
  have h1 := dot_beq h0
  have h3 := ne_empty hn
  have h4 : ¬ s.toList = [] := by rw [ByteArray.toList_eq]; exact hn
  have h5 : 0 < ((s.size : Int) % 2) := by omega
  clear h0 hn ho
  go_enter Tryz.func155, Tryz.ntmps155
  go_wp2
  go_ret2
  exact ⟨_, rfl, Kd.R_nil _ _ _ _ _, Below.refl _ _⟩

set_option maxRecDepth 100000 in
set_option maxHeartbeats 1000000 in
theorem unhex_even (s : ByteArray) (w : World) (hs : s.size ≤ 1099511627776) (h0 : ¬ s.data.toList = [46]) (hn : ¬ s.data.toList = []) (ho : s.size % 2 = 0) :
    Calls Tryz.prog 155 #[.string s] w fun e w' => (∃ xs, pairs s.data.toList = some xs ∧ BytesNew w xs true e w') ∨ (pairs s.data.toList = none ∧ BytesNew w [] false e w') := by
  have h1 := dot_beq h0
  have h3 := ne_empty hn
  have h4 : ¬ s.toList = [] := by rw [ByteArray.toList_eq]; exact hn
  have h5 : ¬ 0 < ((s.size : Int) % 2) := by omega
  have HN := Lib.hid hn
  clear h0 hn
  obtain ⟨n, hn⟩ : ∃ n, s.size = 2 * n := ⟨s.size / 2, by omega⟩
  have hn1 : s.size ≤ 2 * n := by omega
  have hn2 : 2 * n ≤ s.size := by omega
  clear hn
  go_enter Tryz.func155, Tryz.ntmps155
  go_wp2
  go_loopw [4, 5] (fun v iv wr => ∃ (i : Int) (k : Nat) (xs : List Int), iv = .int .i64 i ∧ Hid (i = 2 * k) ∧ k ≤ n ∧ Hid (pairs (s.data.toList.take (2 * k)) = some xs) ∧ Kd.R (Kd.int .u8) 5 wr w.heap.size (fun _ => True) v xs ∧ Below w.heap.size w wr) (fun _ iv _ => 2 * n - (intOf iv).toNat)
  case atStart => exact ⟨0, 0, [], rfl, rfl, Nat.zero_le _, by simp [Hid, pairs], Kd.R_nil _ _ _ _ _, Below.refl _ _⟩
  case round =>
    obtain ⟨i, k, xs, rfl, HI, hk, HP, hR, hBw⟩ := hrel
    have i0 : 0 ≤ i := by have := HI.out; omega
    by_cases hlt : k < n
    · obtain ⟨j, hj⟩ : ∃ j : Int, j = i + 1 := ⟨_, rfl⟩
      have e1 : IntKind.i64.wrap (i + 1) = j := by rw [hj]; have := HI.out; exact IntWalk.i64_in _ (by omega)
      have a1 : i < s.size := by have := HI.out; omega
      have p0 := eq_true i0
      have p1 := eq_true a1
      have q0 : (0 ≤ j) = True := eq_true (by omega)
      have q1 : (j < (s.size : Int)) = True := eq_true (by have := HI.out; omega)
      have b0 := bt_at s i
      have b1 := bt_at s j
      have HJ := Lib.hid hj
      clear hj
      obtain ⟨a, b, ba, bb, hT, hD⟩ := two_at (s := s) HI.out HJ.out (by omega)
      have HT := Lib.hid hT
      have HD := Lib.hid hD
      clear hT hD
      cases hA : hexv a with
      | none =>
        have pA := pl_none hA
        have n0 : decide ((-1 : Int) < 0) = true := rfl
        have hbad := pairs_bad (s := s.data.toList.take (2 * k)) (a := a) (b := b) (s.data.toList.drop (2 * k + 2)) (by rw [List.length_take, size_list]; omega) (.inl hA)
        rw [← HD.out] at hbad
        have HX := Lib.hid hbad
        clear hA hbad
        go_wp2
        go_quiet ((go_at_call 51; exact Calls.quiet_of_same (pl_calls _ _)))
        go_wp2
        go_ret2
        exact .inr ⟨HX.out, _, rfl, Kd.R_nil _ _ _ _ _, below_drewN hBw _⟩
      | some X =>
        cases hB : hexv b with
        | none =>
          have pA := pl_some hA
          have pB := pl_none hB
          have x16 := hexv_lt hA
          have hbad := pairs_bad (s := s.data.toList.take (2 * k)) (a := a) (b := b) (s.data.toList.drop (2 * k + 2)) (by rw [List.length_take, size_list]; omega) (.inr hB)
          rw [← HD.out] at hbad
          have HX := Lib.hid hbad
          obtain ⟨xi, hxi⟩ : ∃ xi : Int, xi = (X : Int) := ⟨_, rfl⟩
          have x2 : (xi < 0) = False := eq_false (by omega)
          have n0 : decide ((-1 : Int) < 0) = true := rfl
          rw [← hxi] at pA
          clear hA hB hbad hxi x16
          go_wp2
          go_quiet ((go_at_call 51; exact Calls.quiet_of_same (pl_calls _ _)))
          go_wp2
          go_ret2
          exact .inr ⟨HX.out, _, rfl, Kd.R_nil _ _ _ _ _, below_drewN hBw _⟩
        | some Y =>
          have pA := pl_some hA
          have pB := pl_some hB
          have x16 := hexv_lt hA
          have y16 := hexv_lt hB
          have HA := Lib.hid hA
          have HB := Lib.hid hB
          clear hA hB
          obtain ⟨xi, hxi⟩ : ∃ xi : Int, xi = (X : Int) := ⟨_, rfl⟩
          obtain ⟨yi, hyi⟩ : ∃ yi : Int, yi = (Y : Int) := ⟨_, rfl⟩
          have x0 : 0 ≤ xi := by omega
          have x1 : xi < 16 := by omega
          have y0 : 0 ≤ yi := by omega
          have y1 : yi < 16 := by omega
          rw [← hxi] at pA
          rw [← hyi] at pB
          have hbit : Go.bits .or .i64 (xi * 16) yi = 16 * xi + yi := by rw [hxi, hyi]; exact hexbits ⟨X, x16⟩ ⟨Y, y16⟩
          have HXI := Lib.hid hxi
          have HYI := Lib.hid hyi
          clear hxi hyi x16 y16
          have x2 : (xi < 0) = False := eq_false (by omega)
          have y2 : (yi < 0) = False := eq_false (by omega)
          have x3 := eq_true x0
          have y3 := eq_true y0
          have hl : (xs.length + 1) * 1 ≤ 140737488355328 := by have h := pairs_length HP.out; rw [List.length_take, size_list] at h; omega
          have HL := Lib.hid hl
          clear hl
          go_wp2
          go_quiet ((go_at_call 51; exact Calls.quiet_of_same (pl_calls _ _)))
          go_wp2_with (at_builtin; refine Kd.R_append (Kd.int .u8) (w0 := w) w.heap.size rfl (.tmp 39) (.tmp 45) 25 5 (.int .u8 0) 1 rfl Tryz.underlying25 infoU8 rfl (by decide) (by omega) u4 xs (16 * xi + yi) [.int .u8 (16 * xi + yi)] (fun _ => True) (fun _ => False) rfl rfl ?aP (fun _ hk => hk.elim) (fun _ _ => trivial) ?aO ?aB ?aS ?aL ?_; (case aP => exact rfl); (case aO => exact Kd.R_drewN hR _); (case aB => exact below_drewN hBw _); (case aS => exact hBw.size); (case aL => exact HL.out); intro v1 w1 hR1 hB1 _ _)
          go_roundw
          case rel =>
            refine ⟨_, k + 1, xs ++ [16 * xi + yi], rfl, ?_, by omega, ?_, hR1, hB1⟩
            · have := HI.out; show _ = _; first | omega | (unfold wrap64; omega) | trace_state
            · have hp := pairs_snoc HP.out HA.out HB.out
              rw [← HT.out] at hp
              show _ = _
              rw [hp, HXI.out, HYI.out]; simp
          case measure => have := HI.out; simp [intOf]; omega
    · have hkn : k = n := by omega
      subst hkn
      have e2 : ¬ i < s.size := by have := HI.out; omega
      have ht : s.data.toList.take (2 * k) = s.data.toList := List.take_of_length_le (by rw [size_list]; omega)
      have hp := HP.out
      rw [ht] at hp
      have HQ := Lib.hid hp
      clear hp ht
      go_wp2
      go_ret2
      exact .inl ⟨xs, HQ.out, _, rfl, hR, hBw⟩

theorem unhex_yes (s : ByteArray) (xs : List Int) (w : World) (hs : s.size ≤ 1099511627776) (h : unhex s.data.toList = some xs) : Calls Tryz.prog 155 #[.string s] w (BytesNew w xs true) := by
  unfold unhex at h
  by_cases hd : s.data.toList = [46]
  · rw [if_pos hd] at h; cases h; exact unhex_dot s w hd
  · rw [if_neg hd] at h
    by_cases hn : s.data.toList = []
    · rw [if_pos hn] at h; cases h
    · rw [if_neg hn] at h
      by_cases ho : s.size % 2 = 0
      · refine (unhex_even s w hs hd hn ho).mono ?_
        rintro e w' (⟨ys, hy, hq⟩ | ⟨hy, _⟩)
        · rw [h] at hy; cases hy; exact hq
        · rw [h] at hy; cases hy
      · rw [pairs_odd (by rw [size_list]; omega)] at h; cases h
theorem unhex_no (s : ByteArray) (w : World) (hs : s.size ≤ 1099511627776) (h : unhex s.data.toList = none) : Calls Tryz.prog 155 #[.string s] w (BytesNew w [] false) := by
  unfold unhex at h
  by_cases hd : s.data.toList = [46]
  · rw [if_pos hd] at h; cases h
  · rw [if_neg hd] at h
    by_cases hn : s.data.toList = []
    · exact unhex_empty s w hn
    · rw [if_neg hn] at h
      by_cases ho : s.size % 2 = 0
      · refine (unhex_even s w hs hd hn ho).mono ?_
        rintro e w' (⟨ys, hy, _⟩ | ⟨_, hq⟩)
        · rw [h] at hy; cases hy
        · exact hq
      · exact unhex_odd s w hs hd (by omega)

/-- A slice of bytes, read, in blocks that were not there in w. -/
abbrev BytesOf (w w' : World) (v : Value) (xs : List Int) : Prop := Kd.V (Kd.int .u8) 5 w' 0 (fun k => w.heap.size ≤ k) v xs
theorem BytesNew.of {w w' : World} {v : Value} {xs : List Int} (h : Kd.R (Kd.int .u8) 5 w' w.heap.size (fun _ => True) v xs) : BytesOf w w' v xs :=
  Kd.R_V (Kd.R_mono (Kd.R_bound h) (fun _ hk => hk.2.1))

/-- What 'text' comes to. -/
def RetB (B N : Nat) (w : World) (xs : List Int) (rest : List ByteArray) (e : Ending) (w' : World) : Prop :=
  ∃ v v', e = .returned v ∧ Upd B w w' v' ∧ Ws B N w' v' rest ∧ BytesOf w w' v xs

set_option maxRecDepth 100000 in
theorem text_nil (B : Nat) {N : Nat} (v : Value) (w : World) (hv : Var B w v) (hs : Ws B N w v []) : Calls Tryz.prog 97 #[.pointer (some ⟨B, 0, none⟩)] w (Thr B w 3) := by
  go_enter Tryz.func97, Tryz.ntmps97
  go_wp2_with (go_at_call 95; refine (next_nil B v _ hv hs).mono ?_; rintro e w' ⟨rfl, v', hu⟩)
  exact ⟨rfl, rfl, _, hu⟩
set_option maxRecDepth 100000 in
theorem text_yes (B : Nat) {N : Nat} (v : Value) (s : ByteArray) (ss : List ByteArray) (xs : List Int) (w : World) (hv : Var B w v) (hs : Ws B N w v (s :: ss)) (hz : s.size ≤ 1099511627776) (h : unhex s.data.toList = some xs) :
    Calls Tryz.prog 97 #[.pointer (some ⟨B, 0, none⟩)] w (RetB B N w xs ss) := by
  have HU := Lib.hid h
  clear h
  go_enter Tryz.func97, Tryz.ntmps97
  go_wp2_with (first
    | (go_at_call 95; refine (next_cons B v s ss _ hv hs).mono ?_; rintro e w1 ⟨rfl, v1, hu, hq⟩)
    | (go_at_call 155; refine (unhex_yes s xs _ hz HU.out).mono ?_; rintro e w2 ⟨v2, rfl, hr, hb⟩))
  go_ret
  exact ⟨_, _, rfl, hu.below hb, hq.below hb, Kd.V_mono (BytesNew.of hr) (fun k hk => Nat.le_trans hu.size hk)⟩
set_option maxRecDepth 100000 in
theorem text_no (B : Nat) {N : Nat} (v : Value) (s : ByteArray) (ss : List ByteArray) (w : World) (hv : Var B w v) (hs : Ws B N w v (s :: ss)) (hz : s.size ≤ 1099511627776) (h : unhex s.data.toList = none) :
    Calls Tryz.prog 97 #[.pointer (some ⟨B, 0, none⟩)] w (Thr B w 3) := by
  have HU := Lib.hid h
  clear h
  go_enter Tryz.func97, Tryz.ntmps97
  go_wp2_with (first
    | (go_at_call 95; refine (next_cons B v s ss _ hv hs).mono ?_; rintro e w1 ⟨rfl, v1, hu, hq⟩)
    | (go_at_call 155; refine (unhex_no s _ hz HU.out).mono ?_; rintro e w2 ⟨v2, rfl, hr, hb⟩))
  exact ⟨rfl, rfl, _, hu.below hb⟩
end Go.Proofs.YtccnmbfigpjkaaaGreatDoor

namespace Go.Proofs.YtccnmbfigpjkaaaGreatDoor
open Go.RowKit Go.Sort Go.Proofs.YtccnmbfigpjkaaaGreatDoorW.PrintWords
open Scr

/-- What is asked of the package-level variables. -/
structure Glb (w : World) : Prop where
  size : 8 ≤ w.heap.size
  maxlen : ∃ m, w.cell? ⟨0, 0, none⟩ = some (.int .i64 m)
  pow : Lib.TabIs Tryz.prog w "internal/strconv.uint64pow10" .u64 Lib.pow10Tab
  syn : ∃ tp p, w.var? Tryz.prog "strconv.ErrSyntax" = some #[.iface tp p]
  rng : ∃ tp p, w.var? Tryz.prog "strconv.ErrRange" = some #[.iface tp p]

theorem gPow : Tryz.prog.globalNamed "internal/strconv.uint64pow10" = some 1 := by kernel_rfl
theorem gSyn : Tryz.prog.globalNamed "strconv.ErrSyntax" = some 4 := by kernel_rfl
theorem gRng : Tryz.prog.globalNamed "strconv.ErrRange" = some 5 := by kernel_rfl

theorem var_of_block {w w' : World} {n : String} {g : Nat} {cs : Array Value} (hg : Tryz.prog.globalNamed n = some g) (hb : w'.heap[g]? = w.heap[g]?) (h : w.var? Tryz.prog n = some cs) : w'.var? Tryz.prog n = some cs := by
  unfold World.var? at h ⊢
  simp only [hg, Option.bind_some] at h ⊢
  rw [hb]; exact h
theorem Glb.of_blocks {w w' : World} (h : Glb w) (hs : w.heap.size ≤ w'.heap.size) (hb : ∀ k, k < 8 → w'.heap[k]? = w.heap[k]?) : Glb w' := by
  obtain ⟨h1, ⟨m, h2⟩, h3, ⟨t1, p1, h4⟩, ⟨t2, p2, h5⟩⟩ := h
  exact ⟨Nat.le_trans h1 hs, ⟨m, (World.cell?_of_block (w := w) (hb _ (by decide))).trans h2⟩, var_of_block gPow (hb _ (by decide)) h3, ⟨t1, p1, var_of_block gSyn (hb _ (by decide)) h4⟩, ⟨t2, p2, var_of_block gRng (hb _ (by decide)) h5⟩⟩
theorem Glb.below {w w' : World} {N : Nat} (h : Glb w) (hb : Below N w w') (hN : 8 ≤ N) : Glb w' := h.of_blocks hb.size (fun k hk => hb.block k (by omega))
theorem Glb.upd {w w' : World} {B : Nat} {v : Value} (h : Glb w) (hu : Upd B w w' v) (hB : 8 ≤ B) : Glb w' :=
  h.of_blocks hu.size (fun k hk => hu.block k (Nat.lt_of_lt_of_le hk h.size) (by omega))

set_option maxHeartbeats 1600000 in
set_option maxRecDepth 100000 in
/-- internal/strconv.FormatUint at base 10: the decimal numeral. -/
theorem iFormatUint_any (u : Nat) (hu64 : u < 18446744073709551616) (w : World) (hG : Glb w) :
    Calls Tryz.prog 73 #[.int .u64 u, .int .i64 10] w fun e w' => e = .returned (.string ⟨(Lib.decDigits u).toArray⟩) ∧ Below w.heap.size w w' := by
  have htab := hG.pow
  by_cases hi : u < 100
  · have iu : (u : Int) < 100 := by omega
    go_enter Tryz.func73, Tryz.ntmps73
    go_wp2_with (go_at_call 124; refine (Tryz.internal_strconv_small u hi _).mono ?_; rintro e w' ⟨rfl, rfl⟩)
    go_ret
    exact ⟨rfl, Below.refl _ _⟩
  · have hu1 : 1 ≤ u := by omega
    have hnd20 : Lib.nDigits u ≤ 20 := by have := Lib.numDigits_eq u hu1 hu64; split at this <;> omega
    have hal : Tryz.prog.arrayLen 216 = 24 := by kernel_rfl
    have hsl : ∀ W, (Instr.sliceAt 216 (.pointer (some ⟨w.heap.size, 0, none⟩)) none (some (.int .i64 (Lib.nDigits u : Int))) none).run Tryz.prog W = .ok (.slice (some ⟨w.heap.size, 0, none⟩) (Lib.nDigits u) 24) W := fun W => by
      rw [run_sliceAt_array_h W 216 ⟨w.heap.size, 0, none⟩ (by kernel_rfl) .i64 (Lib.nDigits u : Int) (by omega) (by rw [hal]; omega)]
      go_simp
    have hH0 := Lib.holds_zero0 w 216 (Lib.nDigits u) (by omega)
    have hfmt := Tryz.internal_strconv_formatBase10 w.heap.size 0 24 u (Array.replicate (Lib.nDigits u) 0) (w.alloc (.cells Lib.zeros24 216)) hH0 (by rw [Array.size_replicate]; exact Lib.lt_pow_nDigits u) hu64 (by rw [Array.size_replicate]; omega)
    rw [Array.size_replicate] at hfmt
    have HH0 := Lib.hid hH0
    have HF := Lib.hid hfmt
    have iu : (100 : Int) ≤ (u : Int) := by omega
    clear hH0 hal hfmt
    have HI := Lib.hid hi
    clear hi
    go_enter Tryz.func73, Tryz.ntmps73
    go_wp2_with (go_at_call 125; refine (Tryz.internal_strconv_numDigits u hu1 hu64 _ (Lib.tabIs_alloc htab _)).mono ?_; rintro e w' ⟨rfl, rfl⟩)
    refine HF.out.mono ?_
    rintro e w' ⟨rfl, k, v', dk, rfl, hF⟩
    have hcv : (convert 25 9 (.slice (some ⟨w.heap.size, 0, none⟩) (Lib.nDigits u) 24)).run Tryz.prog ((putRow (fun (b : UInt8) => Value.int .u8 (b.toNat : Int)) (w.alloc (.cells Lib.zeros24 216)) w.heap.size 0 dk).drewN k) = .ok (.string ⟨(Lib.decDigits u).toArray⟩) ((putRow (fun (b : UInt8) => Value.int .u8 (b.toNat : Int)) (w.alloc (.cells Lib.zeros24 216)) w.heap.size 0 dk).drewN k) := by
      have h := run_convert_bytes_back (P := Tryz.prog) ((putRow (fun (b : UInt8) => Value.int .u8 (b.toNat : Int)) (w.alloc (.cells Lib.zeros24 216)) w.heap.size 0 dk).drewN k) 25 9 5 ⟨w.heap.size, 0, none⟩ 24 (Lib.decDigits u) Tryz.underlying25 Tryz.underlying5 Tryz.underlying9 (fun j hj => by
        rw [Lib.row_is_numeral hF j hj, Lib.add_plain, World.cell?_drewN]
        exact cell?_putRow (fun (b : UInt8) => Value.int .u8 (b.toNat : Int)) _ w.heap.size 0 _ dk HH0.out (by rw [hF.size, Array.size_replicate]) j (by rw [hF.size]; rw [Lib.decDigits_length] at hj; exact hj))
      rw [Lib.decDigits_length] at h
      exact h
    have hB : Below w.heap.size w ((putRow (fun (b : UInt8) => Value.int .u8 (b.toNat : Int)) (w.alloc (.cells Lib.zeros24 216)) w.heap.size 0 dk).drewN k) := by
      obtain ⟨os, eo⟩ := Lib.fin_at w (.cells Lib.zeros24 216) dk k 0
      rw [eo]
      exact Lib.below_grow _ _ (Nat.le_refl _) _ _
    go_wp2
    go_ret
    exact ⟨rfl, hB⟩

set_option maxRecDepth 100000 in
theorem formatUint_any (u : Nat) (hu64 : u < 18446744073709551616) (w : World) (hG : Glb w) :
    Calls Tryz.prog 30 #[.int .u64 u, .int .i64 10] w fun e w' => e = .returned (.string ⟨(Lib.decDigits u).toArray⟩) ∧ Below w.heap.size w w' := by
  go_enter Tryz.func30, Tryz.ntmps30
  go_wp2_with (go_at_call 73; refine (iFormatUint_any u hu64 _ hG).mono ?_; rintro e w' ⟨rfl, hb⟩)
  go_ret
  exact ⟨rfl, hb⟩
end Go.Proofs.YtccnmbfigpjkaaaGreatDoor
