/-
  DERIVED. The laws ScriptLines and ScriptHas: true at every act, at every line.
-/
import Derived.Test.YtkiikpojeogicaaDoorWz
import Derived.Test.YtkiikpojeogicaaDoorRh
import Derived.Test.YtkiikpojeogicaaDoorR7
namespace Go.Proofs.YtkiikpojeogicaaDoor
open Go.RowKit Go.Sort Go.Proofs.YtkiikpojeogicaaDoorW.PrintWords Go.Proofs.YtkiikpojeogicaaDoorW.PrintMore Go.Proofs.YtkiikpojeogicaaDoor.PScriptParses
open Scr

theorem actR_ok {s : List UInt8} {a : ActD} (h : readOf s = (a, 0)) : actR s = (a, 0) := by
  have := (actR_read s).2.1 (by rw [h])
  rw [this, h]
theorem read_of_actR {s : List UInt8} {a : ActD} (h : actR s = (a, 0)) : readOf s = (a, 0) := by
  have h2 : (readOf s).2 = 0 := by rw [← (actR_read s).1, h]
  rw [← (actR_read s).2.1 h2, h]

set_option maxRecDepth 100000 in
set_option maxHeartbeats 8000000 in
theorem lines_law (a : ActD) (A : Option Addr) (c : Nat) (w : World) (hG : Glb w) (hA : ActOk a) (hv : Kd.V (Kd.int .u8) 5 w 0 (fun _ => True) (.slice A a.data.length c) a.data) :
    Calls Tryd.prog 4 #[.agg #[.int .u8 a.kind, .int .u8 a.mode, .int .i64 a.p, .int .i64 a.n, .int .u64 a.version, .slice A a.data.length c]] w fun e w' => e = .returned (.bool true) ∧ Below w.heap.size w w' := by
  have hn0 := heap_new w (.cells #[.int .u8 a.kind, .int .u8 a.mode, .int .i64 a.p, .int .i64 a.n, .int .u64 a.version, .slice A a.data.length c] 36)
  have hB0 : Below w.heap.size w (w.alloc (.cells #[.int .u8 a.kind, .int .u8 a.mode, .int .i64 a.p, .int .i64 a.n, .int .u64 a.version, .slice A a.data.length c] 36)) := (Below.refl _ w).alloc (Nat.le_refl _) _
  by_cases hd : a.data.length ≤ 2000
  · have hl : ¬ (2000 : Int) < a.data.length := by omega
    go_enter Tryd.func4, Tryd.ntmps4
    go_wp2_with fail
    refine (line_any a A c _ (hG.below hB0 hG.size) hA hd (bytes_later hv hB0)).mono ?_
    rintro e w1 ⟨hm, hb1⟩
    have hB1 : Below w.heap.size w w1 := hB0.trans (hb1.mono hB0.size)
    have hk1 := (hb1.block w.heap.size (lt_of_block hn0)).trans hn0
    clear hn0 hb1 hB0
    rcases hm with ⟨hr, rfl⟩ | ⟨hr, rfl⟩
    · go_wp2_with fail
      refine (ract_any ⟨(lineTxt a).toArray⟩ (by have := lineTxt_le hA hd; simpa [ByteArray.size] using this) _).mono ?_
      rintro e w2 ⟨v2, rfl, hv2, hb2⟩
      rw [txt_data, actR_ok hr] at hv2 ⊢
      obtain ⟨A2, c2, rfl⟩ := Kd.V_slice hv2
      have hB2 : Below w.heap.size w w2 := hB1.trans (hb2.mono hB1.size)
      have hk2 := (hb2.block w.heap.size (lt_of_block hk1)).trans hk1
      clear hk1 hb2 hB1
      have e6 : (actCells a (.slice A2 a.data.length c2)).toArray = #[.int .u8 a.kind, .int .u8 a.mode, .int .i64 a.p, .int .i64 a.n, .int .u64 a.version, .slice A2 a.data.length c2] := rfl
      rw [e6]
      have hk7 := fun o => (Below.heap_alloc w2 o _ (lt_of_block hk2)).trans hk2
      have m0 := fun o => (cells6 (hk7 o)).1.1
      have m1 := fun o => (cells6 (hk7 o)).1.2.1
      have m2 := fun o => (cells6 (hk7 o)).1.2.2.1
      have m3 := fun o => (cells6 (hk7 o)).1.2.2.2.1
      have m4 := fun o => (cells6 (hk7 o)).1.2.2.2.2.1
      have m5 := fun o => (cells6 (hk7 o)).1.2.2.2.2.2
      obtain ⟨_, hca, hra⟩ := Kd.V_reads' (bytes_later hv (hB2.alloc hB2.size (.cells #[.int .u8 a.kind, .int .u8 a.mode, .int .i64 a.p, .int .i64 a.n, .int .u64 a.version, .slice A2 a.data.length c2] 36)))
      obtain ⟨_, hcb, hrb⟩ := Kd.V_reads' (Kd.V_alloc hv2 (.cells #[.int .u8 a.kind, .int .u8 a.mode, .int .i64 a.p, .int .i64 a.n, .int .u64 a.version, .slice A2 a.data.length c2] 36))
      go_wp2_with fail
      refine (drogherref30_Same.calls _ _ _ _ _ A c a.data _ _ _ _ _ A2 c2 a.data true _ hra hca hrb hcb (by simp [drogherref30_Same.f])).mono ?_
      rintro e w3 ⟨rfl, hb3⟩
      have hB3 : Below w.heap.size w w3 := (hB2.alloc hB2.size _).trans (hb3.mono (by have := hB2.size; simp; omega))
      go_wp2_with fail
      refine (awake_any _).mono ?_
      rintro e w4 ⟨rfl, hb4⟩
      go_wp2
      go_ret
      exact ⟨rfl, hB3.trans (hb4.mono hB3.size)⟩
    · go_wp2_with fail
      refine (awake_any _).mono ?_
      rintro e w2 ⟨rfl, hb2⟩
      go_wp2
      go_ret
      exact ⟨rfl, hB1.trans (hb2.mono hB1.size)⟩
  · have hl : (2000 : Int) < a.data.length := by omega
    go_enter Tryd.func4, Tryd.ntmps4
    go_wp2_with fail
    refine (awake_any _).mono ?_
    rintro e w2 ⟨rfl, hb2⟩
    go_wp2
    go_ret
    exact ⟨rfl, hB0.trans (hb2.mono hB0.size)⟩

theorem str_back (s : ByteArray) : (⟨s.data.toList.toArray⟩ : ByteArray) = s := by cases s; simp

set_option maxRecDepth 100000 in
set_option maxHeartbeats 8000000 in
theorem has_law (s : ByteArray) (w : World) (hG : Glb w) : Calls Tryd.prog 5 #[.string s] w fun e w' => e = .returned (.bool true) ∧ Below w.heap.size w w' := by
  by_cases hs : s.size ≤ 2000
  · have hl : ¬ (2000 : Int) < s.size := by omega
    go_enter Tryd.func5, Tryd.ntmps5
    go_wp2_with fail
    refine (ract_any s (by omega) _).mono ?_
    rintro e w1 ⟨v1, rfl, hv1, hb1⟩
    obtain ⟨b, q, hbq⟩ : ∃ b q, actR s.data.toList = (b, q) := ⟨_, _, rfl⟩
    rw [hbq] at hv1 ⊢
    obtain ⟨A1, c1, rfl⟩ := Kd.V_slice hv1
    have e6 : (actCells b (.slice A1 b.data.length c1)).toArray = #[.int .u8 b.kind, .int .u8 b.mode, .int .i64 b.p, .int .i64 b.n, .int .u64 b.version, .slice A1 b.data.length c1] := rfl
    dsimp only
    rw [e6]
    have hB1 : Below w.heap.size w (w1.alloc (.cells #[.int .u8 b.kind, .int .u8 b.mode, .int .i64 b.p, .int .i64 b.n, .int .u64 b.version, .slice A1 b.data.length c1] 36)) := hb1.alloc hb1.size _
    have hv2 := Kd.V_mono (Kd.V_alloc hv1 (.cells #[.int .u8 b.kind, .int .u8 b.mode, .int .i64 b.p, .int .i64 b.n, .int .u64 b.version, .slice A1 b.data.length c1] 36)) (fun _ _ => trivial)
    by_cases hq : q = 0
    · subst hq
      have hr := read_of_actR hbq
      have hw := words_of_act (read_ok_act hr)
      have ht := lineTxt_of (read_ok_act hr)
      have hdl := data_le (read_ok_act hr)
      have hd : b.data.length ≤ 2000 := Nat.le_trans hdl (by rw [Array.length_toList]; exact hs)
      have hA := hw.2.2
      go_wp2_with fail
      refine (line_any b A1 c1 _ (hG.below hB1 hG.size) hA hd hv2).mono ?_
      rintro e w2 ⟨hm, hb2⟩
      have hB2 : Below w.heap.size w w2 := hB1.trans (hb2.mono hB1.size)
      rcases hm with ⟨_, rfl⟩ | ⟨hno, _⟩
      · rw [ht, str_back]
        clear hw ht hdl hr hbq
        go_wp2_with fail
        refine (awake_any _).mono ?_
        rintro e w3 ⟨rfl, hb3⟩
        go_wp2
        go_ret
        exact ⟨rfl, hB2.trans (hb3.mono hB2.size)⟩
      · exact absurd (by rw [ht]; exact hr) hno
    · have hq' : (q != 0) = true := by simpa using hq
      go_wp2_with fail
      refine (awake_any _).mono ?_
      rintro e w3 ⟨rfl, hb3⟩
      go_wp2
      go_ret
      exact ⟨rfl, hB1.trans (hb3.mono hB1.size)⟩
  · have hl : (2000 : Int) < s.size := by omega
    go_enter Tryd.func5, Tryd.ntmps5
    go_wp2_with fail
    refine (awake_any _).mono ?_
    rintro e w2 ⟨rfl, hb2⟩
    go_wp2
    go_ret
    exact ⟨rfl, hb2⟩
end Go.Proofs.YtkiikpojeogicaaDoor
