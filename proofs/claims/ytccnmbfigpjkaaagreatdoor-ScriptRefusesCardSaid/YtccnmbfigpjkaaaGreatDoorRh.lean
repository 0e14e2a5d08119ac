/-
  DERIVED. The reference's Act, at any line of at most 5000 bytes.
-/
import Derived.Test.YtccnmbfigpjkaaaGreatDoorRg
namespace Go.Proofs.YtccnmbfigpjkaaaGreatDoor
open Go.RowKit Go.Sort Go.Proofs.YtccnmbfigpjkaaaGreatDoorW.PrintWords Go.Proofs.YtccnmbfigpjkaaaGreatDoorW.PrintMore Go.Proofs.YtccnmbfigpjkaaaGreatDoor.PScriptRefuses
open Scr

set_option maxRecDepth 100000 in
set_option maxHeartbeats 2000000 in
theorem ract_none (s : ByteArray) (hs : s.size ≤ 5000) (w : World) (K : List UInt8) (R : List (List UInt8)) (hw0 : wordsOf s.data.toList = K :: R) (hk : formOf K = (⟨#[]⟩, 0, false)) (hq : actR s.data.toList = (actZ, 21)) :
    Calls Tryz.prog 17 #[.string s] w (RActP w (actR s.data.toList)) := by
  go_enter Tryz.func17, Tryz.ntmps17
  go_wp2_with fail
  refine (rwords_any s hs _).mono ?_
  rintro e w1 ⟨k, r, g, c, rfl, hw, hg, hgl, ck, hV, hM, hB⟩
  rw [hw0] at hw
  injection hw with hw1 hw2
  have hBw : Below w.heap.size w w1 := (((Below.refl _ w).alloc (Nat.le_refl _) _).alloc (by simp) _).trans (hB.mono (by simp; omega))
  obtain ⟨z2, z4⟩ := two_zero (nd := 0) hB (Below.refl _ _)
  go_wp2_with fail
  refine (rform_any k ⟨#[]⟩ 0 false (by rw [← hw1]; exact hk) _).mono ?_
  rintro e w2 ⟨rfl, nd, rfl⟩
  have y2 : (w1.drewN nd).heap[w.heap.size]? = some zAct := z2
  have y4 : (w1.drewN nd).heap[w.heap.size + 1]? = some zAct := z4
  obtain ⟨⟨c20, c21, c22, c23, c24, c25⟩, f20, f21, f22, f23, f24, f25⟩ := cells6 y2
  obtain ⟨⟨c40, c41, c42, c43, c44, c45⟩, f40, f41, f42, f43, f44, f45⟩ := cells6 y4
  go_wp2
  rw [hq]
  exact ract_done (a := actZ) rfl rfl y2 rfl (Kd.V_nil _ _ _ _ _) (hBw.trans (below_drewN (Below.refl _ _) nd))

theorem ract_any (s : ByteArray) (hs : s.size ≤ 5000) (w : World) : Calls Tryz.prog 17 #[.string s] w (RActP w (actR s.data.toList)) := by
  obtain ⟨K, R, hw⟩ := wordsOf_cons s.data.toList
  by_cases h1 : K = wBuild
  · exact ract_build s hs w K R hw h1
  by_cases h2 : K = wFeed
  · exact ract_feed s hs w K R hw h2
  by_cases h3 : K = wBegin
  · exact ract_begin s hs w K R hw h3
  by_cases h4 : K = wCommit
  · exact ract_commit s hs w K R hw h4
  by_cases h5 : K = wCancel
  · exact ract_cancel s hs w K R hw h5
  by_cases h6 : K = wFuse
  · exact ract_fuse s hs w K R hw h6
  by_cases h7 : K = wFall
  · exact ract_fall s hs w K R hw h7
  by_cases h8 : K = wSpoil
  · exact ract_spoil s hs w K R hw h8
  by_cases h9 : K = wImage
  · exact ract_image s hs w K R hw h9
  by_cases h10 : K = wStatus
  · exact ract_status s hs w K R hw h10
  refine ract_none s hs w K R hw ?_ ?_
  · simp only [formOf, h1, h2, h3, h4, h5, h6, h7, h8, h9, h10, if_false]
  · rw [actR, hw, actOf]
    simp only [fields, h1, h2, h3, h4, h5, h6, h7, h8, h9, h10, if_false, fin]
end Go.Proofs.YtccnmbfigpjkaaaGreatDoor
