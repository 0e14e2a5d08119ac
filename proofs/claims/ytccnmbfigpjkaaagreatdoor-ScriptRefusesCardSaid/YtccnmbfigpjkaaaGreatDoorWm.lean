/-
  DERIVED. strings.Lines and the iterator that it hands back: it writes its captured text between the rounds, so its contract is its own.
-/
import Derived.RangeFuncNested
import Derived.RangeFuncBound
import Derived.RangeFuncCalls
import Derived.RangeFuncLeaves
import Derived.Shelf.Abstract
import Derived.Shelf.RegionOpen
import Derived.WalkKit
import Derived.OwnWalkIn
import Derived.TacticsInMore
import Derived.LoopNIn
import Derived.LoopIn
import Derived.Test.YtccnmbfigpjkaaaGreatDoorPl
import Derived.Test.YtccnmbfigpjkaaaGreatDoorSh
namespace Go.Proofs.YtccnmbfigpjkaaaGreatDoor
open Go.RowKit Go.Shelf
open Scr

set_option maxHeartbeats 1000000 in
theorem lines_any (s : ByteArray) (w : World) : Calls Tryz.prog 19 #[.string s] w fun e w' => e = .returned (.func (.func 50) #[] #[.pointer (some ⟨w.heap.size, 0, none⟩)]) ∧ w' = w.alloc (.cells #[.string s] 9) := by
  go_enter Tryz.func19, Tryz.ntmps19
  go_wp2
  go_ret
  exact ⟨rfl, rfl⟩

theorem setCell_one {W : World} {B t : Nat} {v : Value} (h : W.heap[B]? = some (.cells #[v] t (0, 0))) (u : Value) : (W.setCell ⟨B, 0, none⟩ u).heap[B]? = some (.cells #[u] t (0, 0)) := by
  obtain ⟨hlt, hk⟩ := Array.getElem?_eq_some_iff.1 h
  show (W.heap.modify B _)[B]? = _
  rw [Array.getElem?_eq_getElem (by rw [Array.size_modify]; exact hlt), Array.getElem_modify_self, hk]
  rfl

/-- The bytes still to come. -/
def leftB (Bs : Nat) (W : World) : Nat := match W.cell? ⟨Bs, 0, none⟩ with | some (.string s) => s.size | _ => 0

theorem leftB_eq {Bs t : Nat} {W : World} {s : ByteArray} (h : W.heap[Bs]? = some (.cells #[.string s] t (0, 0))) : leftB Bs W = s.size := by
  unfold leftB
  have hc : W.cell? ⟨Bs, 0, none⟩ = some (.string s) := by simp [World.cell?, h]
  rw [hc]

set_option maxRecDepth 100000 in
set_option maxHeartbeats 1000000 in
theorem lines1_in (n l Bs : Nat) (text : ByteArray) (J Jx : List (List UInt8) → World → Prop)
    (hJs : ∀ pre W v, J pre W → J pre (W.setCell ⟨Bs, 0, none⟩ v)) (hJd : ∀ pre W, J pre W → J pre W.drew)
    (hY : ∀ (pre rest : List (List UInt8)) (x : ByteArray) W, J pre W → linesOf text.data.toList = pre ++ x.data.toList :: rest → x.size ≤ text.size → YieldAt Fence.wide (n - 1) Tryz.prog l #[.string x] W fun e W' =>
      (e = .returned (.bool true) ∧ J (pre ++ [x.data.toList]) W' ∧ W'.heap[Bs]? = W.heap[Bs]?) ∨ (e = .returned (.bool false) ∧ Jx (pre ++ [x.data.toList]) W'))
    (W : World) (hBs : W.heap[Bs]? = some (.cells #[.string text] 9 (0, 0))) (h0 : J [] W) (hlen : text.size ≤ 2147483648) :
    CallsIn Fence.wide n Tryz.prog 50 #[.func (.yield l) #[] #[], .pointer (some ⟨Bs, 0, none⟩)] W fun e W' => (∃ v, e = .returned v) ∧
      (J (linesOf text.data.toList) W' ∨ (∃ pre rest, linesOf text.data.toList = pre ++ rest ∧ Jx pre W')) := by
  refine callsIn_of_wp Tryz.func50 rfl trivial ?_ rfl
  simp only [Tryz.ntmps50, List.size_toArray, List.length_cons, List.length_nil, Nat.reduceAdd, Nat.reduceSub, Array.replicate_succ, Array.replicate_zero, List.push_toArray, List.append_toArray, List.nil_append, List.cons_append]
  gi_wp2
  gi_loopw [] (fun wr => ∃ (pre : List (List UInt8)) (s : ByteArray), wr.heap[Bs]? = some (.cells #[.string s] 9 (0, 0)) ∧ s.size ≤ text.size ∧ linesOf text.data.toList = pre ++ linesOf s.data.toList ∧ J pre wr)
    (fun wr => leftB Bs wr)
  case atStart => exact ⟨[], text, hBs, Nat.le_refl _, rfl, h0⟩
  case round =>
    obtain ⟨pre, s, hb, hsz, hx, hj⟩ := hrel
    have hc : wr.cell? ⟨Bs, 0, none⟩ = some (.string s) := by simp [World.cell?, hb]
    have hf : wr.frozen? ⟨Bs, 0, none⟩ = false := by simp [World.frozen?, hb]
    by_cases he : s.size = 0
    · have hp : ¬ 0 < s.size := by omega
      gi_wp2
      go_end0
      have e0 : s.data.toList = [] := by have : s.data.toList.length = 0 := (by simpa using he); exact List.eq_nil_of_length_eq_zero this
      refine ⟨⟨_, rfl⟩, .inl ?_⟩
      rw [hx, e0]
      simpa [linesOf, linesGo] using hj
    · have hp : 0 < s.size := by omega
      obtain ⟨i, hi⟩ : ∃ i, Lib.indexByte s.data.toList 10 = i := ⟨_, rfl⟩
      by_cases hn : i = -1
      · have hlt : ¬ 0 ≤ i := by omega
        have hJ1 := hJs pre wr (.string ⟨#[]⟩) hj
        obtain ⟨fn, tmps, assign, body, hy, hR⟩ := hY pre [] s _ hJ1 (by rw [hx, linesOf_none (by intro h; apply he; rw [← ByteArray.size_data, ← Array.length_toList, h]; rfl) (by rw [hi, hn])]) hsz
        have hl1 : linesOf s.data.toList = [s.data.toList] := linesOf_none (by intro h; apply he; rw [← ByteArray.size_data, ← Array.length_toList, h]; rfl) (by rw [hi, hn])
        gi_wp2_with fail
        refine ⟨trivial, (by intro h; cases h), ?_⟩
        refine (callsIn_wide.2 (Tryz.strings_IndexByte s 10 _)).mono ?_
        rintro e w' ⟨rfl, rfl⟩
        rw [show ((10 : Int).toNat.toUInt8 : UInt8) = 10 from rfl, hi]
        gi_wp2
        refine ⟨(by intro h; cases h), ?_⟩
        refine hR.mono ?_
        rintro e W3 (⟨rfl, hJ3, hk3⟩ | ⟨rfl, hJx3⟩)
        · gi_wp2
          go_roundw
          case rel => exact ⟨pre ++ [s.data.toList], ⟨#[]⟩, hk3.trans (setCell_one hb _), Nat.zero_le _, by rw [hx, hl1]; exact (List.append_nil _).symm, hJ3⟩
          case measure => rw [leftB_eq (hk3.trans (setCell_one hb _)), leftB_eq hb]; exact hp
        · gi_wp2
          refine bodyPost_ret (results_none rfl _ _ _) rfl ?_
          exact ⟨⟨_, rfl⟩, .inr ⟨pre ++ [s.data.toList], [], by rw [hx, hl1]; simp, hJx3⟩⟩
      · obtain ⟨k, rfl⟩ : ∃ k : Nat, i = k := by
          have := Lib.indexByte_ge s.data.toList 10
          exact ⟨i.toNat, by omega⟩
        have hlt : (0 : Int) ≤ k := by omega
        have hkl := (linesGo_some [] s.data.toList k hi).2
        have hJ1 := hJd pre _ (hJs pre wr (.string (s.extract (k + 1) s.size)) hj)
        obtain ⟨fn, tmps, assign, body, hy, hR⟩ := hY pre (linesOf (s.data.toList.drop (k + 1))) (s.extract 0 (k + 1)) _ hJ1 (by rw [hx, linesOf_some hi]; simp) (by simp; omega)
        gi_wp2_with fail
        refine ⟨trivial, (by intro h; cases h), ?_⟩
        refine (callsIn_wide.2 (Tryz.strings_IndexByte s 10 _)).mono ?_
        rintro e w' ⟨rfl, rfl⟩
        rw [show ((10 : Int).toNat.toUInt8 : UInt8) = 10 from rfl, hi]
        gi_wp2
        have hcd : w'.drew.cell? ⟨Bs, 0, none⟩ = some (.string s) := hc
        have hfd : w'.drew.frozen? ⟨Bs, 0, none⟩ = false := hf
        have hk1 : k + 1 ≤ s.size := by simp at hkl; omega
        have hw1 : wrap64 ((k : Int) + 1) = ((k + 1 : Nat) : Int) := by unfold wrap64; omega
        gi_region
        gi_wp2
        refine ⟨(by intro h; cases h), ?_⟩
        refine hR.mono ?_
        have hk5 : (w'.setCell ⟨Bs, 0, none⟩ (.string (s.extract (k + 1) s.size))).drew.heap[Bs]? = some (.cells #[.string (s.extract (k + 1) s.size)] 9 (0, 0)) := setCell_one hb _
        have hl2 : linesOf s.data.toList = (s.extract 0 (k + 1)).data.toList :: linesOf (s.extract (k + 1) s.size).data.toList := by
          rw [linesOf_some hi]
          have e1 : (s.extract 0 (k + 1)).data.toList = s.data.toList.take (k + 1) := by simp
          have e2 : (s.extract (k + 1) s.size).data.toList = s.data.toList.drop (k + 1) := by
            simp
            exact List.take_of_length_le (by rw [List.length_drop]; exact Nat.le_refl _)
          rw [e1, e2]
        rintro e W3 (⟨rfl, hJ3, hk3⟩ | ⟨rfl, hJx3⟩)
        · gi_wp2
          go_roundw
          case rel => exact ⟨pre ++ [(s.extract 0 (k + 1)).data.toList], _, hk3.trans hk5, by simp; omega, by rw [hx, hl2]; simp, hJ3⟩
          case measure => rw [leftB_eq (hk3.trans hk5), leftB_eq hb]; simp; omega
        · gi_wp2
          refine bodyPost_ret (results_none rfl _ _ _) rfl ?_
          exact ⟨⟨_, rfl⟩, .inr ⟨pre ++ [(s.extract 0 (k + 1)).data.toList], linesOf (s.extract (k + 1) s.size).data.toList, by rw [hx, hl2]; simp, hJx3⟩⟩
end Go.Proofs.YtccnmbfigpjkaaaGreatDoor
