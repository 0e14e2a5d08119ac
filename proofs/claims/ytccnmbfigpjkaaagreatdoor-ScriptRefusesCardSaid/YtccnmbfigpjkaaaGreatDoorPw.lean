/-
  DERIVED. The law ScriptRefuses: true at every text. Play, where the text is no script.
-/
import Derived.Test.YtccnmbfigpjkaaaGreatDoorRk
import Derived.Test.YtccnmbfigpjkaaaGreatDoorWr
namespace Go.Proofs.YtccnmbfigpjkaaaGreatDoor
open Go.RowKit Go.Sort Go.Proofs.YtccnmbfigpjkaaaGreatDoorW.PrintWords Go.Proofs.YtccnmbfigpjkaaaGreatDoorW.PrintMore Go.Proofs.YtccnmbfigpjkaaaGreatDoor.PScriptRefuses
open Scr

theorem runLines_bad : ∀ (ls : List (List UInt8)) (r : RdD) (n m : Nat) (e : Int), runLines r n ls = .bad m e → EK e
  | [], r, n, m, e, h => by cases h
  | l :: ls, r, n, m, e, h => by
    unfold runLines at h
    split at h
    · rename_i ho; cases h; exact oneOf_bad ho
    · exact runLines_bad ls _ _ _ _ h
theorem parseOf_bad {text : List UInt8} {n : Nat} {e : Int} (h : parseOf text = .bad n e) : ¬ e = 0 := by
  unfold parseOf at h
  split at h
  · cases h; decide
  · split at h
    · rename_i hr; cases h; exact (runLines_bad _ _ _ _ _ hr).ne
    · split at h
      · cases h
      · cases h; decide

set_option maxRecDepth 100000 in
set_option maxHeartbeats 4000000 in
theorem play_bad (text : ByteArray) (w : World) (hG : Glb w) (hs : text.size ≤ 5000) (n : Nat) (k : Int) (hp : parseOf text.data.toList = .bad n k) :
    Calls Tryz.prog 6 #[.string text] w fun e w' => e = .returned (.tuple #[.string ⟨#[]⟩, .int .i64 n, .int .i64 k]) ∧ Below w.heap.size w w' := by
  have HS := Lib.hid hs
  clear hs
  have hk' : (k != 0) = true := by simpa using parseOf_bad hp
  go_enter Tryz.func6, Tryz.ntmps6
  go_wp2_with fail
  refine (parse_any text _ hG hG.size HS.out).mono ?_
  rintro e W ⟨rfl, hB, hm⟩
  rw [hp] at hm
  obtain ⟨cs, hb, hcs, h8, h9⟩ := hm
  have c8 : W.cell? ⟨w.heap.size + 1, 8, none⟩ = some (.int .i64 n) := by simp [World.cell?, hb, h8]
  have c9 : W.cell? ⟨w.heap.size + 1, 9, none⟩ = some (.int .i64 k) := by simp [World.cell?, hb, h9]
  go_wp2
  go_region
  go_wp2
  refine bodyPost_ret (v := .tuple #[.string ⟨#[]⟩, .int .i64 n, .int .i64 k]) (by simp [results, Tryz.results6, go_sem]) rfl ?_
  exact ⟨rfl, hB.drew⟩

set_option maxRecDepth 100000 in
set_option maxHeartbeats 4000000 in
theorem refuses_great (text : ByteArray) (hs : ¬ text.size ≤ 5000) (w : World) :
    Calls Tryz.prog 3 #[.string text] w fun e w' => e = .returned (.bool true) ∧ Below w.heap.size w w' := by
  have hl : (5000 : Int) < text.size := by omega
  go_enter Tryz.func3, Tryz.ntmps3
  go_wp2_with (go_at_call 4; refine (awake_any _).mono ?_; rintro e w' ⟨rfl, hb⟩)
  go_ret
  exact ⟨rfl, hb⟩

set_option maxRecDepth 100000 in
set_option maxHeartbeats 4000000 in
theorem refuses_ok (text : ByteArray) (hs : text.size ≤ 5000) (w : World) (r : RdD) (hp : parseOf text.data.toList = .ok r) :
    Calls Tryz.prog 3 #[.string text] w fun e w' => e = .returned (.bool true) ∧ Below w.heap.size w w' := by
  have HS := Lib.hid hs
  have hl : ¬ (5000 : Int) < text.size := by omega
  clear hs
  go_enter Tryz.func3, Tryz.ntmps3
  go_wp2_with fail
  refine (rparse_any text HS.out _).mono ?_
  rintro e W2 ⟨hB2, hm⟩
  rw [hp] at hm
  obtain ⟨base2, sv2, iv2, av2, vs2, hbase2, rfl, hR2⟩ := hm
  obtain ⟨B0, m0, k0, rfl⟩ := hR2.seed.isSlice
  obtain ⟨B1, m1, k1, rfl⟩ := hR2.image.isSlice
  obtain ⟨B2, m2, k2, rfl⟩ := hR2.acts.isSlice
  have hBB : Below w.heap.size w (W2.alloc (.cells (scells r.x (.slice B0 m0 k0) (.slice B1 m1 k1) (.slice B2 m2 k2) true 0 0) 28)) := hB2.alloc hB2.size _
  go_wp2_with fail
  refine (awake_any _).mono ?_
  rintro e w' ⟨rfl, hb⟩
  go_wp2
  go_ret
  exact ⟨rfl, hBB.trans (hb.mono hBB.size)⟩

set_option maxRecDepth 100000 in
set_option maxHeartbeats 4000000 in
theorem refuses_bad (text : ByteArray) (hs : text.size ≤ 5000) (w : World) (hG : Glb w) (n : Nat) (k : Int) (hp : parseOf text.data.toList = .bad n k) :
    Calls Tryz.prog 3 #[.string text] w fun e w' => e = .returned (.bool true) ∧ Below w.heap.size w w' := by
  have HS := Lib.hid hs
  have hl : ¬ (5000 : Int) < text.size := by omega
  clear hs
  have hk' : (k == 0) = false := by simpa using parseOf_bad hp
  go_enter Tryz.func3, Tryz.ntmps3
  go_wp2_with fail
  refine (rparse_any text HS.out _).mono ?_
  rintro e W2 ⟨hB2, hm⟩
  rw [hp] at hm
  obtain ⟨x, s, i, a, b, ⟨B0, m0, k0, rfl⟩, ⟨B1, m1, k1, rfl⟩, ⟨B2, m2, k2, rfl⟩, rfl⟩ := hm
  have hBB : Below w.heap.size w (W2.alloc (.cells (scells x (.slice B0 m0 k0) (.slice B1 m1 k1) (.slice B2 m2 k2) b n k) 28)) := hB2.alloc hB2.size _
  have hS := heap_new W2 (.cells (scells x (.slice B0 m0 k0) (.slice B1 m1 k1) (.slice B2 m2 k2) b n k) 28)
  go_wp2_with fail
  refine (play_bad text _ (hG.below hBB hG.size) HS.out n k hp).mono ?_
  rintro e W4 ⟨rfl, hb4⟩
  have hS4 := (hb4.block _ (lt_of_block hS)).trans hS
  have hB4 := hBB.trans (hb4.mono hBB.size)
  obtain ⟨⟨_, _, _, _, _, _, _, _, q8, q9⟩, _⟩ := cells10 hS4
  go_wp2_with fail
  refine (awake_any _).mono ?_
  rintro e w' ⟨rfl, hb⟩
  go_wp2
  go_ret
  exact ⟨rfl, hB4.trans (hb.mono hB4.size)⟩

/-- The law: true at every text. -/
theorem refuses_any (text : ByteArray) (w : World) (hG : Glb w) : Calls Tryz.prog 3 #[.string text] w fun e w' => e = .returned (.bool true) ∧ Below w.heap.size w w' := by
  by_cases hs : text.size ≤ 5000
  · cases hp : parseOf text.data.toList with
    | ok r => exact refuses_ok text hs w r hp
    | bad n k => exact refuses_bad text hs w hG n k hp
  · exact refuses_great text hs w
end Go.Proofs.YtccnmbfigpjkaaaGreatDoor
