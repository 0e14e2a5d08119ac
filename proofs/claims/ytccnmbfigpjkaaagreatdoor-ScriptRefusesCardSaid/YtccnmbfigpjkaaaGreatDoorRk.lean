/-
  DERIVED. The reference's Parse, at any text of at most 5000 bytes.
-/
import Derived.Test.YtccnmbfigpjkaaaGreatDoorRj
import Derived.Test.YtccnmbfigpjkaaaGreatDoorWo
import Derived.StillTailTactics
namespace Go.Proofs.YtccnmbfigpjkaaaGreatDoor
open Go.RowKit Go.Sort Go.Proofs.YtccnmbfigpjkaaaGreatDoorW.PrintWords Go.Proofs.YtccnmbfigpjkaaaGreatDoorW.PrintMore Go.Proofs.YtccnmbfigpjkaaaGreatDoor.PScriptRefuses
open Scr

namespace Scr
theorem count_step {l : List UInt8} {i : Nat} (h : i < l.length) : Lib.countByte (l.take (i + 1)) 10 = Lib.countByte (l.take i) 10 + if l[i] = 10 then 1 else 0 := by
  unfold Lib.countByte
  rw [← List.take_append_getElem h, List.count_append]
  by_cases hc : l[i] = 10
  · rw [if_pos hc, hc]; rfl
  · rw [if_neg hc, List.count_cons_of_ne hc]; rfl
theorem count_take (l : List UInt8) (i : Nat) : Lib.countByte (l.take i) 10 ≤ i := by
  unfold Lib.countByte
  exact Nat.le_trans List.count_le_length (by rw [List.length_take]; omega)
theorem idx_hit : ∀ (p q : List UInt8), (∀ c ∈ p, ¬ c = 10) → Lib.indexByte (p ++ 10 :: q) 10 = (p.length : Int)
  | [], q, _ => by simp [Lib.indexByte]
  | c :: p, q, h => by
    have hc : (c == 10) = false := by simpa using h c (by simp)
    have ih := idx_hit p q (fun d hd => h d (by simp [hd]))
    rw [List.cons_append, Lib.indexByte, if_neg (by rw [hc]; decide), ih]
    have : ((p.length : Int) == -1) = false := by simp
    rw [if_neg (by rw [this]; decide)]
    simp
theorem idx_miss : ∀ (p : List UInt8), (∀ c ∈ p, ¬ c = 10) → Lib.indexByte p 10 = -1
  | [], _ => rfl
  | c :: p, h => by
    have hc : (c == 10) = false := by simpa using h c (by simp)
    rw [Lib.indexByte, if_neg (by rw [hc]; decide), idx_miss p (fun d hd => h d (by simp [hd]))]
    rfl
theorem lines_hit (p q : List UInt8) (h : ∀ c ∈ p, ¬ c = 10) : linesOf (p ++ 10 :: q) = (p ++ [10]) :: linesOf q := by
  rw [linesOf_some (idx_hit p q h)]
  have e1 : (p ++ 10 :: q).take (p.length + 1) = p ++ [10] := by rw [List.take_append, List.take_of_length_le (Nat.le_succ _)]; simp
  have e2 : (p ++ 10 :: q).drop (p.length + 1) = q := by rw [List.drop_append]; simp
  rw [e1, e2]
theorem one_line (r : RdD) (p : List UInt8) : oneOf r (p ++ [10]) = lineOf r p := by
  rw [oneOf, if_pos (by simp)]
  simp
theorem cut_at {l : List UInt8} {i last : Nat} (h : i < l.length) (hl : last ≤ i) : l.drop last = (l.take i).drop last ++ l[i] :: l.drop (i + 1) := by
  have e : l = l.take i ++ l[i] :: l.drop (i + 1) := by rw [← List.drop_eq_getElem_cons h, List.take_append_drop]
  conv => lhs; rw [e]
  rw [List.drop_append_of_le_length (by rw [List.length_take]; omega)]
theorem cut_snoc {l : List UInt8} {i last : Nat} (h : i < l.length) (hl : last ≤ i) : (l.take (i + 1)).drop last = (l.take i).drop last ++ [l[i]] := by
  rw [← List.take_append_getElem h, List.drop_append_of_le_length (by rw [List.length_take]; omega)]
end Scr

/-- What the reference's Parse hands back. -/
def RParseP (w : World) (text : List UInt8) (E : Ending) (W : World) : Prop :=
  Below w.heap.size w W ∧ match parseOf text with
    | .ok r => ∃ base sv iv av vs, w.heap.size ≤ base ∧ E = .returned (.agg (scells r.x sv iv av true 0 0)) ∧ Rs base W r sv iv av vs
    | .bad n e => ∃ x s i a b, IsSlice s ∧ IsSlice i ∧ IsSlice a ∧ E = .returned (.agg (scells x s i a b n e))
theorem rparse_res {W : World} {tmps : Array Value} {q : Nat} {x0 x1 x2 x3 x4 x5 x6 x7 x8 x9 : Value} (h2 : tmps[2]? = some (.pointer (some ⟨q, 0, none⟩))) (hz : W.heap[q]? = some (.cells #[x0, x1, x2, x3, x4, x5, x6, x7, x8, x9] 28 (0, 0))) :
    (results Tryz.f5 tmps).run Tryz.prog W = .ok (.agg #[x0, x1, x2, x3, x4, x5, x6, x7, x8, x9]) W := by
  obtain ⟨⟨c0, c1, c2, c3, c4, c5, c6, c7, c8, c9⟩, _⟩ := cells10 hz
  simp [results, Tryz.results5, go_sem, h2, c0, c1, c2, c3, c4, c5, c6, c7, c8, c9]

theorem rparse_done {w U : World} {tmps : Array Value} {q : Nat} {x0 x1 x2 x3 x4 x5 x6 x7 x8 x9 : Value} {R : Ending → World → Prop} (h2 : tmps[2]? = some (.pointer (some ⟨q, 0, none⟩))) (hz : U.heap[q]? = some zS) (hq0 : w.heap.size ≤ q) (hB : Below w.heap.size w U)
    (hR : ∀ W : World, W.heap.size = U.heap.size → (∀ k, k ≠ q → W.heap[k]? = U.heap[k]?) → Below w.heap.size w W → R (.returned (.agg #[x0, x1, x2, x3, x4, x5, x6, x7, x8, x9])) W) :
    bodyPost Tryz.prog Tryz.f5 R .ret { tmps := tmps, defers := [] } (put10 U q x0 x1 x2 x3 x4 x5 x6 x7 x8 x9) := by
  have hq := put10_same x0 x1 x2 x3 x4 x5 x6 x7 x8 x9 hz
  have hB2 := put10_below x0 x1 x2 x3 x4 x5 x6 x7 x8 x9 hB hq0
  have ho := hR (put10 U q x0 x1 x2 x3 x4 x5 x6 x7 x8 x9) (put10_size U q x0 x1 x2 x3 x4 x5 x6 x7 x8 x9) (fun k hk => put10_other x0 x1 x2 x3 x4 x5 x6 x7 x8 x9 hk) hB2
  generalize put10 U q x0 x1 x2 x3 x4 x5 x6 x7 x8 x9 = Uf at hq ho ⊢
  exact bodyPost_ret (rparse_res h2 hq) rfl ho

set_option maxRecDepth 100000 in
set_option maxHeartbeats 4000000 in
theorem rparse_any (text : ByteArray) (hs : text.size ≤ 5000) (w : World) :
    Calls Tryz.prog 5 #[.string text] w (RParseP w text.data.toList) := by
  go_enter Tryz.func5, Tryz.ntmps5
  go_wp2
  go_loop [3, 4] (fun u v => ∃ i : Nat, i ≤ text.size ∧ u = .int .i64 (Lib.countByte (text.data.toList.take i) 10 : Nat) ∧ v = .int .i64 i) (fun _ v => text.size - (intOf v).toNat)
  case atStart => exact ⟨0, Nat.zero_le _, rfl, rfl⟩
  case round =>
    obtain ⟨i, hi, rfl, rfl⟩ := hrel
    by_cases hlt : i < text.size
    · have hl : i < text.data.toList.length := by simpa using hlt
      have hb := btn_at text i hl
      have hcs := count_step hl
      have hcl := count_take text.data.toList i
      have hw1 : wrap64 ((i : Int) + 1) = ((i + 1 : Nat) : Int) := by unfold wrap64; omega
      have hw2 : wrap64 ((Lib.countByte (text.data.toList.take i) 10 : Nat) + 1 : Int) = ((Lib.countByte (text.data.toList.take i) 10 + 1 : Nat) : Int) := by unfold wrap64; omega
      clear hb
      have HC := Lib.hid hcs
      clear hcs
      go_wp2
      all_goals first
        | (have h : (((text.data[i]'hlt).toNat : Int) == 10) = true := by assumption
           have hc : text.data.toList[i] = 10 := UInt8.toNat_inj.1 (by have h' : (((text.data[i]'hlt).toNat : Int)) = 10 := by simpa using h
                                                                       show (text.data[i]'hlt).toNat = 10
                                                                       omega)
           have hcs := HC.out
           rw [if_pos hc] at hcs
           go_round
           case rel => exact ⟨i + 1, by omega, by rw [hcs]; rfl, rfl⟩
           case measure => simp [intOf]; omega)
        | (have h : (((text.data[i]'hlt).toNat : Int) == 10) = false := by assumption
           have hc : ¬ text.data.toList[i] = 10 := fun e => by
             have e' : text.data[i]'hlt = 10 := e
             rw [e'] at h
             exact absurd h (by decide)
           have hcs := HC.out
           rw [if_neg hc] at hcs
           go_round
           case rel => exact ⟨i + 1, by omega, by rw [hcs]; rfl, rfl⟩
           case measure => simp [intOf]; omega)
    · obtain rfl : i = text.size := by omega
      have htk : text.data.toList.take text.size = text.data.toList := List.take_of_length_le (by simp)
      rw [htk]
      have hl1 : ¬ (1048576 : Int) < text.size := by omega
      by_cases hc : 1000 < Lib.countByte text.data.toList 10
      · have hc' : (1000 : Int) < Lib.countByte text.data.toList 10 := by omega
        go_wp2
        refine bodyPost_ret (rparse_res rfl (heap_new w _)) rfl ⟨(Below.refl _ w).alloc (Nat.le_refl _) _, ?_⟩
        rw [parseOf, if_pos hc]
        exact ⟨⟨0, 0, 0, [], [], 0⟩, _, _, _, false, ⟨_, _, _, rfl⟩, ⟨_, _, _, rfl⟩, ⟨_, _, _, rfl⟩, rfl⟩
      · have hc' : ¬ (1000 : Int) < Lib.countByte text.data.toList 10 := by omega
        go_wp2_with fail
        obtain ⟨hz5, hz2, hB0, hsz0⟩ := alloc2 w (scells ⟨0, 0, 0, [], [], 0⟩ (.slice none 0 0) (.slice none 0 0) (.slice none 0 0) false 0 0) (scells ⟨0, 0, 0, [], [], 0⟩ (.slice none 0 0) (.slice none 0 0) (.slice none 0 0) false 0 0)
        generalize (w.alloc (.cells (scells ⟨0, 0, 0, [], [], 0⟩ (.slice none 0 0) (.slice none 0 0) (.slice none 0 0) false 0 0) 28)).alloc (.cells (scells ⟨0, 0, 0, [], [], 0⟩ (.slice none 0 0) (.slice none 0 0) (.slice none 0 0) false 0 0) 28) = W0 at hz5 hz2 hB0 hsz0 ⊢
        have hcnt := hc
        go_loopw [6, 7] (fun u v wr => ∃ (i last : Nat) (pre : List (List UInt8)) (r : RdD) (sv iv av : Value) (vs : List Value), u = .int .i64 last ∧ v = .int .i64 i ∧ last ≤ i ∧ i ≤ text.size ∧ linesOf text.data.toList = pre ++ linesOf (text.data.toList.drop last) ∧ runLines rdZ 0 pre = .ok r ∧
            (∀ c ∈ (text.data.toList.take i).drop last, ¬ c = 10) ∧ pre.length ≤ last ∧ wr.heap[w.heap.size]? = some zS ∧ wr.heap[w.heap.size + 1]? = some (.cells (scells r.x sv iv av r.begun pre.length 0) 28 (0, 0)) ∧ Rs (w.heap.size + 2) wr r sv iv av vs ∧ Below w.heap.size w wr)
          (fun _ v _ => text.size - (intOf v).toNat)
        case atStart => exact ⟨0, 0, [], rdZ, .slice none 0 0, .slice none 0 0, .slice none 0 0, [], rfl, rfl, Nat.le_refl _, Nat.zero_le _, by simp, rfl, by simp, Nat.le_refl _, hz2, hz5, ⟨by omega, Kd.V_nil _ _ _ _ _, Kd.V_nil _ _ _ _ _, ⟨rfl, World.ownsRow_nil _ _ _ _, fun i a v ha => by simp [rdZ] at ha⟩⟩, hB0⟩
        case round =>
          obtain ⟨i, last, pre, r, sv, iv, av, vs, rfl, rfl, hli, hi, hlin, hrun, hno, hpl, hb2, hb5, hR, hBw⟩ := hrel
          by_cases hlt : i < text.size
          · have hlt' : i < text.data.toList.length := by simpa using hlt
            have hw1 : wrap64 ((i : Int) + 1) = ((i + 1 : Nat) : Int) := by unfold wrap64; omega
            obtain ⟨A0, n0, c0, rfl⟩ := hR.seed.isSlice
            obtain ⟨A1, n1, c1, rfl⟩ := hR.image.isSlice
            obtain ⟨A2, n2, c2, rfl⟩ := hR.acts.isSlice
            obtain ⟨⟨d0, d1, d2, d3, d4, d5, d6, d7, d8, d9⟩, f0, f1, f2, f3, f4, f5, f6, f7, f8, f9⟩ := cells10 hb5
            have hil : last ≤ i ∧ i ≤ text.size := ⟨hli, hi⟩
            go_wp2
            · have h : (((text.data[i]'hlt).toNat : Int) == 10) = true := by assumption
              have hc : text.data.toList[i] = 10 := UInt8.toNat_inj.1 (by
                have h' : (((text.data[i]'hlt).toNat : Int)) = 10 := by simpa using h
                show (text.data[i]'hlt).toNat = 10
                omega)
              have HC := Lib.hid hc
              clear hc h
              have hRd : Rs (w.heap.size + 2) wr.drew r (.slice A0 n0 c0) (.slice A1 n1 c1) (.slice A2 n2 c2) vs := hR.step (Nat.le_refl _) (fun _ _ _ => rfl)
              have hb2d : wr.drew.heap[w.heap.size]? = some zS := hb2
              have hb5d : wr.drew.heap[w.heap.size + 1]? = some (.cells (scells r.x (.slice A0 n0 c0) (.slice A1 n1 c1) (.slice A2 n2 c2) r.begun pre.length 0) 28 (0, 0)) := hb5
              have hBd : Below w.heap.size w wr.drew := Below.drew hBw
              go_still_tail 5, (by kernel_rfl)
              change wpList _ _ _ _ _ wr.drew
              generalize wr.drew = wd at hRd hb2d hb5d hBd ⊢
              clear d0 d1 d2 d3 d4 d5 d6 d7 d8 d9 f0 f1 f2 f3 f4 f5 f6 f7 f8 f9
              have hpe : (text.extract last i).data.toList = (text.data.toList.take i).drop last := extract_list text last i
              go_wp2_with fail
              refine (rone_any (w.heap.size + 2) (text.extract last i) (by simp; omega) wd r _ _ _ pre.length (by omega) (by have := runLines_acts _ _ _ _ hrun; simp only [rdZ, List.length_nil] at this; omega) vs hRd).mono ?_
              rintro e W1 ⟨hB1, hm⟩
              rw [hpe] at hm
              have hcut : linesOf (text.data.toList.drop last) = ((text.data.toList.take i).drop last ++ [10]) :: linesOf (text.data.toList.drop (i + 1)) := by
                rw [cut_at hlt' hli, HC.out]; exact lines_hit _ _ hno
              have hone := one_line r ((text.data.toList.take i).drop last)
              have hb2e := (hB1.block _ (show w.heap.size < w.heap.size + 2 by omega)).trans hb2d
              have hb5e := (hB1.block _ (show w.heap.size + 1 < w.heap.size + 2 by omega)).trans hb5d
              have hBe : Below w.heap.size w W1 := hBd.trans (hB1.mono (by omega))
              obtain ⟨_, f0, f1, f2, f3, f4, f5, f6, f7, f8, f9⟩ := cells10 hb5e
              obtain ⟨_, g0, g1, g2, g3, g4, g5, g6, g7, g8, g9⟩ := cells10 hb2e
              cases ho : lineOf r ((text.data.toList.take i).drop last) with
              | ok r' =>
                rw [ho] at hm hone
                obtain ⟨sv', iv', av', vs', rfl, hR'⟩ := hm
                obtain ⟨B0, m0, k0, rfl⟩ := hR'.seed.isSlice
                obtain ⟨B1, m1, k1, rfl⟩ := hR'.image.isSlice
                obtain ⟨B2, m2, k2, rfl⟩ := hR'.acts.isSlice
                go_wp2
                have hq2 : (put10 W1 (w.heap.size + 1) (.int .i64 r'.x.sector) (.int .i64 r'.x.block) (.int .i64 r'.x.slot) (.slice B0 m0 k0) (.slice B1 m1 k1) (.int .i64 r'.x.version) (.slice B2 m2 k2) (.bool r'.begun) (.int .i64 ((pre.length : Int) + 1)) (.int .i64 0)).heap[w.heap.size]? = some zS := (put10_other _ _ _ _ _ _ _ _ _ _ (by omega)).trans hb2e
                have hq5 := put10_same (.int .i64 r'.x.sector) (.int .i64 r'.x.block) (.int .i64 r'.x.slot) (.slice B0 m0 k0) (.slice B1 m1 k1) (.int .i64 r'.x.version) (.slice B2 m2 k2) (.bool r'.begun) (.int .i64 ((pre.length : Int) + 1)) (.int .i64 0) hb5e
                have hqB := put10_below (.int .i64 r'.x.sector) (.int .i64 r'.x.block) (.int .i64 r'.x.slot) (.slice B0 m0 k0) (.slice B1 m1 k1) (.int .i64 r'.x.version) (.slice B2 m2 k2) (.bool r'.begun) (.int .i64 ((pre.length : Int) + 1)) (.int .i64 0) hBe (show w.heap.size ≤ w.heap.size + 1 by omega)
                have hqR : Rs (w.heap.size + 2) (put10 W1 (w.heap.size + 1) (.int .i64 r'.x.sector) (.int .i64 r'.x.block) (.int .i64 r'.x.slot) (.slice B0 m0 k0) (.slice B1 m1 k1) (.int .i64 r'.x.version) (.slice B2 m2 k2) (.bool r'.begun) (.int .i64 ((pre.length : Int) + 1)) (.int .i64 0)) r' (.slice B0 m0 k0) (.slice B1 m1 k1) (.slice B2 m2 k2) vs' := hR'.step (by rw [put10_size]; exact Nat.le_refl _) (fun k hk _ => put10_other _ _ _ _ _ _ _ _ _ _ (by omega))
                simp only [put10, put6] at hq2 hq5 hqB hqR
                generalize ((((((((((W1.setCell ⟨w.heap.size + 1, 0, none⟩ (.int .i64 r'.x.sector)).setCell ⟨w.heap.size + 1, 1, none⟩ (.int .i64 r'.x.block)).setCell ⟨w.heap.size + 1, 2, none⟩ (.int .i64 r'.x.slot)).setCell ⟨w.heap.size + 1, 3, none⟩ (.slice B0 m0 k0)).setCell ⟨w.heap.size + 1, 4, none⟩ (.slice B1 m1 k1)).setCell ⟨w.heap.size + 1, 5, none⟩ (.int .i64 r'.x.version)).setCell ⟨w.heap.size + 1, 6, none⟩ (.slice B2 m2 k2)).setCell ⟨w.heap.size + 1, 7, none⟩ (.bool r'.begun)).setCell ⟨w.heap.size + 1, 8, none⟩ (.int .i64 ((pre.length : Int) + 1))).setCell ⟨w.heap.size + 1, 9, none⟩ (.int .i64 0)) = W2 at hq2 hq5 hqB hqR ⊢
                clear hb5 hb5d hb5e hb2 hb2d hb2e
                have hL : ((pre ++ [(text.data.toList.take i).drop last ++ [10]]).length : Int) = (pre.length : Int) + 1 := by simp
                go_roundw
                case rel => exact ⟨i + 1, i + 1, pre ++ [(text.data.toList.take i).drop last ++ [10]], r', _, _, _, vs', rfl, rfl, Nat.le_refl _, by omega, by rw [hlin, hcut]; simp, runLines_snoc hrun hone, by rw [List.drop_of_length_le (by rw [List.length_take]; omega)]; simp, by simp; omega, hq2, by rw [hL]; exact hq5, hqR, hqB⟩
                case measure => simp [intOf]; omega
              | bad n =>
                rw [ho] at hm hone
                obtain ⟨x', s', i', a', b', ⟨B0, m0, k0, rfl⟩, ⟨B1, m1, k1, rfl⟩, ⟨B2, m2, k2, rfl⟩, rfl⟩ := hm
                have hn0 : (n != 0) = true := by simpa using (oneOf_bad hone).ne
                go_wp2
                refine rparse_done rfl ((put10_other _ _ _ _ _ _ _ _ _ _ (show w.heap.size ≠ w.heap.size + 1 by omega)).trans hb2e) (Nat.le_refl _) (put10_below _ _ _ _ _ _ _ _ _ _ hBe (by omega)) (fun Wf hz1 hz3 hz4 => ⟨hz4, ?_⟩)
                rw [parseOf, if_neg hcnt, hlin, hcut, runLines_stop hrun hone]
                exact ⟨x', _, _, _, b', ⟨_, _, _, rfl⟩, ⟨_, _, _, rfl⟩, ⟨_, _, _, rfl⟩, rfl⟩
            · have h : (((text.data[i]'hlt).toNat : Int) == 10) = false := by assumption
              have hc : ¬ text.data.toList[i] = 10 := fun e => by
                have e' : text.data[i]'hlt = 10 := e
                rw [e'] at h
                exact absurd h (by decide)
              go_roundw
              case rel =>
                refine ⟨i + 1, last, pre, r, _, _, _, vs, rfl, rfl, by omega, by omega, hlin, hrun, ?_, hpl, hb2, hb5, hR, hBw⟩
                intro c hcm
                rw [cut_snoc hlt' hli] at hcm
                rcases List.mem_append.1 hcm with hcm | hcm
                · exact hno c hcm
                · rw [List.mem_singleton.1 hcm]; exact hc
              case measure => simp [intOf]; omega
          · obtain rfl : i = text.size := by omega
            rw [htk] at hno
            obtain ⟨A0, n0, c0, rfl⟩ := hR.seed.isSlice
            obtain ⟨A1, n1, c1, rfl⟩ := hR.image.isSlice
            obtain ⟨A2, n2, c2, rfl⟩ := hR.acts.isSlice
            obtain ⟨⟨d0, d1, d2, d3, d4, d5, d6, d7, d8, d9⟩, f0, f1, f2, f3, f4, f5, f6, f7, f8, f9⟩ := cells10 hb5
            obtain ⟨_, g0, g1, g2, g3, g4, g5, g6, g7, g8, g9⟩ := cells10 hb2
            have hset : ∀ (U : World) (o : Nat) (u : Value), U.heap[w.heap.size]? = some zS → (U.setCell ⟨w.heap.size + 1, o, none⟩ u).heap[w.heap.size]? = some zS := fun U o u h => (Below.heap_setCell _ _ _ _ (by show w.heap.size ≠ w.heap.size + 1; omega)).trans h
            have hsb : ∀ (U : World) (o : Nat) (u : Value), Below w.heap.size w U → Below w.heap.size w (U.setCell ⟨w.heap.size + 1, o, none⟩ u) := fun U o u h => h.setCell (p := ⟨w.heap.size + 1, o, none⟩) (by show w.heap.size ≤ w.heap.size + 1; omega) _
            by_cases hll : last < text.size
            · have hwl : wrap64 ((pre.length : Int) + 1) = (pre.length : Int) + 1 := by unfold wrap64; omega
              have hne : ¬ text.data.toList.drop last = [] := by rw [List.drop_eq_nil_iff]; simp; omega
              have h22 : oneOf r (text.data.toList.drop last) = .bad 22 := by
                rw [oneOf, if_neg]
                intro h
                exact hno 10 (List.mem_of_getLast? h) rfl
              have hl22 : parseOf text.data.toList = .bad (pre.length + 1) 22 := by
                rw [parseOf, if_neg hcnt, hlin, linesOf_none hne (idx_miss _ hno), runLines_stop hrun h22]
              have HP := Lib.hid hl22
              clear hl22 h22 hne
              go_wp2
              refine rparse_done rfl (hset _ _ _ (hset _ _ _ hb2)) (Nat.le_refl _) (hsb _ _ _ (hsb _ _ _ hBw)) (fun Wf hz1 hz3 hz4 => ⟨hz4, ?_⟩)
              rw [HP.out]
              exact ⟨r.x, _, _, _, r.begun, ⟨_, _, _, rfl⟩, ⟨_, _, _, rfl⟩, ⟨_, _, _, rfl⟩, rfl⟩
            · have hle : text.data.toList.drop last = [] := by rw [List.drop_eq_nil_iff]; simp; omega
              rw [hle] at hlin
              have hpl' : linesOf text.data.toList = pre := by rw [hlin]; simp [linesOf, linesGo]
              have hP : parseOf text.data.toList = if r.begun then .ok r else .bad 0 3 := by
                rw [parseOf, if_neg hcnt, hpl', hrun]
              have HP := Lib.hid hP
              clear hP
              by_cases hbg : r.begun = true
              · go_wp2
                refine rparse_done rfl (hset _ _ _ hb2) (Nat.le_refl _) (hsb _ _ _ hBw) (fun Wf hz1 hz3 hz4 => ⟨hz4, ?_⟩)
                rw [HP.out, if_pos hbg]
                refine ⟨w.heap.size + 2, _, _, _, vs, by omega, rfl, hR.step (by rw [hz1, setCell_size]; exact Nat.le_refl _) (fun k hk _ => ?_)⟩
                exact (hz3 k (by omega)).trans (Below.heap_setCell _ _ _ _ (by show k ≠ w.heap.size + 1; omega))
              · have hbg' : r.begun = false := by simpa using hbg
                go_wp2
                refine rparse_done rfl (hset _ _ _ (hset _ _ _ hb2)) (Nat.le_refl _) (hsb _ _ _ (hsb _ _ _ hBw)) (fun Wf hz1 hz3 hz4 => ⟨hz4, ?_⟩)
                rw [HP.out, if_neg hbg]
                exact ⟨r.x, _, _, _, false, ⟨_, _, _, rfl⟩, ⟨_, _, _, rfl⟩, ⟨_, _, _, rfl⟩, rfl⟩
end Go.Proofs.YtccnmbfigpjkaaaGreatDoor
