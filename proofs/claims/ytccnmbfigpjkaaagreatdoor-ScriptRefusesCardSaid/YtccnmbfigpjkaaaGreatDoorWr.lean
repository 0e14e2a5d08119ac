/-
  DERIVED. Hex, at any bytes; awake.
-/
import Derived.Test.YtccnmbfigpjkaaaGreatDoorWq
import Derived.Test.YtccnmbfigpjkaaaGreatDoorPl
import Derived.Test.YtccnmbfigpjkaaaGreatDoorWc
namespace Go.Proofs.YtccnmbfigpjkaaaGreatDoor
open Go.RowKit Go.Sort Go.Proofs.YtccnmbfigpjkaaaGreatDoorW.PrintWords
open Scr

namespace Scr
def hexc (n : Nat) : UInt8 := digits.getD n 0
def hexs (xs : List Int) : List UInt8 := xs.flatMap fun x => [hexc (x.toNat / 16), hexc (x.toNat % 16)]
/-- The text of bytes. -/
def hexOf (xs : List Int) : List UInt8 := if xs = [] then [46] else hexs xs
theorem hexs_snoc (xs : List Int) (x : Int) : hexs (xs ++ [x]) = hexs xs ++ [hexc (x.toNat / 16), hexc (x.toNat % 16)] := by simp [hexs]
theorem hexs_length (xs : List Int) : (hexs xs).length = 2 * xs.length := by
  induction xs with
  | nil => rfl
  | cons x xs ih => simp only [hexs, List.flatMap_cons, List.length_append, List.length_cons, List.length_nil] at ih ⊢; omega
end Scr

theorem alloc_at (w : World) (o : Obj) : (w.alloc o).heap[w.heap.size]? = some o := by
  show (w.heap.push o)[w.heap.size]? = some o
  simp

theorem dig_all : ∀ n : Fin 16, ((⟨#[48, 49, 50, 51, 52, 53, 54, 55, 56, 57, 97, 98, 99, 100, 101, 102]⟩ : ByteArray)[n.val]'n.isLt) = hexc n.val := by decide
theorem dig_at (n : Nat) (h : n < 16) (h' : n < (⟨#[48, 49, 50, 51, 52, 53, 54, 55, 56, 57, 97, 98, 99, 100, 101, 102]⟩ : ByteArray).size) : ((⟨#[48, 49, 50, 51, 52, 53, 54, 55, 56, 57, 97, 98, 99, 100, 101, 102]⟩ : ByteArray)[n]'h') = hexc n := dig_all ⟨n, h⟩

theorem rd_facts {xs : List Int} {i : Nat} {x : Int} (h : i < xs.length) (hx : rd xs i = x) : x ∈ xs ∧ xs.take (i + 1) = xs.take i ++ [x] := by
  have he : xs[i] = x := by
    rw [← hx]; simp [Go.Proofs.YtccnmbfigpjkaaaGreatDoorW.PrintWords.rd, h]
  subst he
  exact ⟨List.getElem_mem h, by rw [← List.take_append_getElem h]⟩

set_option maxRecDepth 100000 in
set_option maxHeartbeats 2000000 in
theorem hex_any (v : Value) (xs : List Int) (w : World) (hv : Kd.V (Kd.int .u8) 5 w 0 (fun _ => True) v xs) (hb : ∀ x ∈ xs, 0 ≤ x ∧ x < 256) (hl : xs.length ≤ 10000) :
    Calls Tryz.prog 7 #[v] w fun e w' => e = .returned (.string ⟨(hexOf xs).toArray⟩) ∧ Below w.heap.size w w' := by
  obtain ⟨A, c, rfl⟩ := Kd.V_slice hv
  by_cases hn : xs = []
  · subst hn
    go_enter Tryz.func7, Tryz.ntmps7
    go_wp2
    go_ret
    exact ⟨rfl, Below.refl _ _⟩
  · have hp : ((xs.length : Int) == 0) = false := by simpa using hn
    go_enter Tryz.func7, Tryz.ntmps7
    go_wp2
    go_loopw [11] (fun u wr => ∃ i : Nat, i ≤ xs.length ∧ u = .int .i64 i ∧ Lib.IsBuilder 47 5 w.heap.size w.heap.size (Lib.byteCells (hexs (xs.take i))) wr ∧ Below w.heap.size w wr)
      (fun u _ => (xs.length - (intOf u).toNat))
    case atStart => exact ⟨0, Nat.zero_le _, rfl, Lib.fresh_isBuilder _ _ w, (Below.refl _ w).alloc (Nat.le_refl _) _⟩
    case round =>
      obtain ⟨i, hi, rfl, hB, hbe⟩ := hrel
      by_cases hlt : i < xs.length
      · have hv2 := Kd.V_step (w1 := wr) (Kd.V_bound hv) (fun k hk _ => hbe.block k hk.2)
        obtain ⟨ad, hA, hcell⟩ := Kd.at_int (Kd.V_reads' hv2).2.2 (i : Int) (by omega) (by omega)
        subst hA
        obtain ⟨x, hx⟩ : ∃ x, rd xs i = x := ⟨_, rfl⟩
        obtain ⟨hxm, htk⟩ := rd_facts hlt hx
        obtain ⟨hx0, hx1⟩ := hb x hxm
        rw [hx, Int.toNat_natCast] at hcell
        clear hx
        go_wp2_with fail
        refine (writeByte_any w.heap.size w.heap.size _ _ _ hB (by rw [Lib.byteCells_length, hexs_length, List.length_take]; omega) hbe.size).mono ?_
        rintro e w1 ⟨rfl, hB1, hb1⟩
        rw [dig_at _ (by omega)] at hB1
        go_wp2_with fail
        refine (writeByte_any w.heap.size w.heap.size _ _ _ (.inr hB1) (by rw [List.length_append, Lib.byteCells_length, hexs_length, List.length_take]; simp; omega) (hbe.trans hb1).size).mono ?_
        rintro e w2 ⟨rfl, hB2, hb2⟩
        rw [dig_at _ (by omega)] at hB2
        have hN : Lib.IsBuilder 47 5 w.heap.size w.heap.size (Lib.byteCells (hexs (xs.take (i + 1)))) w2 := by
          rw [htk, hexs_snoc]
          have e1 : (x / 16).toNat = x.toNat / 16 := by omega
          have e2 : (x % 16).toNat = x.toNat % 16 := by omega
          rw [e1, e2] at hB2
          refine .inr ?_
          simpa [Lib.byteCells] using hB2
        have hw1 : wrap64 ((i : Int) + 1) = ((i + 1 : Nat) : Int) := by unfold wrap64; omega
        go_wp2
        go_roundw
        case rel => exact ⟨i + 1, by omega, by simp, hN, (hbe.trans hb1).trans hb2⟩
        case measure => simp [intOf]; omega
      · have : i = xs.length := by omega
        subst this
        rw [List.take_length] at hB
        have hne : hexs xs ≠ [] := by intro h; have := hexs_length xs; rw [h] at this; have h2 : 0 = 2 * xs.length := this; exact hn (List.eq_nil_of_length_eq_zero (by omega))
        go_wp2_with fail
        refine (Tryz.Builder_String_k w.heap.size w.heap.size (hexs xs) _ (.of hB) hne).mono ?_
        rintro e w1 ⟨rfl, _, hb1, _⟩
        go_wp2
        go_ret
        exact ⟨by rw [hexOf, if_neg hn]; rfl, hbe.trans hb1⟩

set_option maxRecDepth 100000 in
set_option maxHeartbeats 2000000 in
/-- awake is true. -/
theorem awake_any (w : World) : Calls Tryz.prog 4 #[] w fun e w' => e = .returned (.bool true) ∧ Below w.heap.size w w' := by
  go_enter Tryz.func4, Tryz.ntmps4
  go_wp2_with fail
  have hv : Kd.V (Kd.int .u8) 5 (w.alloc (.cells #[.int .u8 10, .int .u8 255] 5)) 0 (fun _ => True) (.slice (some ⟨w.heap.size, 0, none⟩) 2 2) [10, 255] := by
    refine Kd.R_V (base := 0) (Kd.R_of_own (enc := Value.int .u8) (h1 := fun _ => rfl) ⟨rfl, .inr ⟨w.heap.size, 2, #[.int .u8 10, .int .u8 255], rfl, Nat.zero_le _, ?_, Nat.le_refl _, by unfold maxLen; decide, rfl, rfl⟩⟩ (fun _ _ => trivial))
    exact alloc_at w _
  refine (hex_any _ [10, 255] _ hv (by decide) (by decide)).mono ?_
  rintro e w1 ⟨rfl, hb⟩
  go_wp2
  go_ret
  exact ⟨rfl, ((Below.refl _ w).alloc (Nat.le_refl _) _).trans (hb.mono (by simp))⟩
end Go.Proofs.YtccnmbfigpjkaaaGreatDoor
