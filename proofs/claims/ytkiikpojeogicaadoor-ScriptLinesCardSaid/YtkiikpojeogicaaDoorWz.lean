/-
  DERIVED. script.Line, kind by kind.
-/
import Derived.Test.YtkiikpojeogicaaDoorWy
import Derived.Deep.RegionHeld3
import Derived.Deep.RegionLawGrows
namespace Go.Proofs.YtkiikpojeogicaaDoor
open Go.RowKit Go.Sort Go.Proofs.YtkiikpojeogicaaDoorW.PrintWords Go.Proofs.YtkiikpojeogicaaDoorW.PrintMore Go.Proofs.YtkiikpojeogicaaDoor.PScriptParses
open Scr

set_option maxRecDepth 100000 in
set_option maxHeartbeats 4000000 in
theorem line_other (a : ActD) (A : Option Addr) (c : Nat) (w : World) (hG : Glb w) (hA : ActOk a) (hd : a.data.length ≤ 2000) (hv : Kd.V (Kd.int .u8) 5 w 0 (fun _ => True) (.slice A a.data.length c) a.data)
    (h1 : (a.kind == 1) = false) (h2 : (a.kind == 2) = false) (h8 : (a.kind == 8) = false) (h6 : (a.kind == 6) = false) (h7 : (a.kind == 7) = false) :
    Calls Tryd.prog 10 #[.agg #[.int .u8 a.kind, .int .u8 a.mode, .int .i64 a.p, .int .i64 a.n, .int .u64 a.version, .slice A a.data.length c]] w (LineP w a) := by
  have hK0 := hA.kind0
  have hK1 := hA.kind1
  have hM0 := hA.mode0
  have hM1 := hA.mode1
  go_enter Tryd.func10, Tryd.ntmps10
  go_wp2_with fail
  refine (name_any a.kind (by omega) (by omega) _).mono ?_
  rintro e w1 ⟨rfl, hb1⟩
  have hk1 := (hb1.block w.heap.size (by simp)).trans (heap_new w (.cells #[.int .u8 a.kind, .int .u8 a.mode, .int .i64 a.p, .int .i64 a.n, .int .u64 a.version, .slice A a.data.length c] 36))
  have hk2 := fun o => (Below.heap_alloc w1 o _ (lt_of_block hk1)).trans hk1
  have a0 := fun o => (cells6 (hk2 o)).1.1
  have a1 := fun o => (cells6 (hk2 o)).1.2.1
  have hs1 : w.heap.size < w1.heap.size := lt_of_block hk1
  have hB1 : Below w.heap.size w w1 := ((Below.refl _ w).alloc (Nat.le_refl _) _).trans (hb1.mono (by simp))
  have hG1 : Glb w1 := hG.below hB1 hG.size
  have hG2 := fun o => Glb.below (w' := w1.alloc o) hG1 ((Below.refl _ w1).alloc (Nat.le_refl _) _) hG1.size
  have hown1 := own_one w1 ⟨(kindName a.kind).toArray⟩ (w.heap.size + 1) hs1
  go_wp2_with fail
  refine (num_any a.mode (by omega) (by omega) _ (hG2 _)).mono ?_
  rintro e w3 ⟨rfl, hb3⟩
  have hk3 := (hb3.block w.heap.size (by simp; omega)).trans (hk2 _)
  have hown3 := own_below hown1 hb3
  have hB3 : Below w.heap.size w w3 := (hB1.alloc (by have := hB1.size; omega) _).trans (hb3.mono (by have := hB1.size; simp; omega))
  have hG3 : Glb w3 := hG.below hB3 hG.size
  obtain ⟨⟨k0, k1, k2, k3, k4, k5⟩, _⟩ := cells6 hk3
  clear a0 a1 hk1 hk2 hown1 hG1 hG2 hb1 hb3
  have hx : ([⟨(kindName a.kind).toArray⟩] : List ByteArray).map (·.data.toList) = kindName a.kind :: lineRest a := by simp [lineRest] at h1 h2 h8 h6 h7 ⊢; simp [h1, h2, h8, h6, h7]
  go_wp2_with fail
  refine (join_line a _ _ _ 1 [⟨(kindName a.kind).toArray⟩] hown3 rfl (by decide) (by decide) hx (lineTxt_le hA hd)).mono ?_
  rintro e w5 ⟨rfl, hb5⟩
  have hB5 : Below w.heap.size w w5 := hB3.trans (hb5.mono hB3.size)
  have hG5 : Glb w5 := hG.below hB5 hG.size
  have hk5 := (hb5.block w.heap.size (lt_of_block hk3)).trans hk3
  go_wp2_with fail
  refine (read_any ⟨(lineTxt a).toArray⟩ _ hG5 (txt_size hA hd)).mono ?_
  rintro e w6 ⟨v6, rfl, hv6, hb6⟩
  rw [txt_data] at hv6 ⊢
  obtain ⟨b, q, hbq⟩ : ∃ b q, readOf (lineTxt a) = (b, q) := ⟨_, _, rfl⟩
  rw [hbq] at hv6 ⊢
  have hB6 : Below w.heap.size w w6 := hB5.trans (hb6.mono hB5.size)
  have hk6 := (hb6.block w.heap.size (lt_of_block hk5)).trans hk5
  clear hk5 hb5 hB5 hG5
  obtain ⟨A6, c6, rfl⟩ := Kd.V_slice hv6
  have hk7 := fun o => (Below.heap_alloc w6 o _ (lt_of_block hk6)).trans hk6
  have m0 := fun o => (cells6 (hk7 o)).1.1
  have m1 := fun o => (cells6 (hk7 o)).1.2.1
  have m2 := fun o => (cells6 (hk7 o)).1.2.2.1
  have m3 := fun o => (cells6 (hk7 o)).1.2.2.2.1
  have m4 := fun o => (cells6 (hk7 o)).1.2.2.2.2.1
  have m5 := fun o => (cells6 (hk7 o)).1.2.2.2.2.2
  by_cases hq : q = 0
  · subst hq
    obtain ⟨r, hr, hi⟩ := same_bool a b hA.data (words_of_act (read_ok_act hbq)).2.2.data
    obtain ⟨_, hca, hra⟩ := Kd.V_reads' (bytes_later hv (hB6.alloc hB6.size (.cells #[.int .u8 b.kind, .int .u8 b.mode, .int .i64 b.p, .int .i64 b.n, .int .u64 b.version, .slice A6 b.data.length c6] 36)))
    obtain ⟨_, hcb, hrb⟩ := Kd.V_reads' (Kd.V_alloc hv6 (.cells #[.int .u8 b.kind, .int .u8 b.mode, .int .i64 b.p, .int .i64 b.n, .int .u64 b.version, .slice A6 b.data.length c6] 36))
    go_wp2_with fail
    refine (script_same.calls _ _ _ _ _ A c a.data _ _ _ _ _ A6 c6 b.data r _ hra hca hrb hcb hr).mono ?_
    rintro e w8 ⟨rfl, hb8⟩
    have hB8 : Below w.heap.size w w8 := (hB6.alloc hB6.size _).trans (hb8.mono (by have := hB6.size; simp; omega))
    cases r with
    | true =>
      have hab := Lib.hid (hi.1 rfl)
      clear hi hr
      go_wp2
      go_ret2
      exact ⟨.inl ⟨by rw [hbq, hab.out], rfl⟩, hB8⟩
    | false =>
      have hab : RowKit.Hid (¬ a = b) := Lib.hid (fun e => absurd (hi.2 e) (by decide))
      clear hi hr
      go_wp2
      go_ret2
      exact ⟨.inr ⟨fun e => by rw [hbq] at e; exact hab.out (congrArg Prod.fst e).symm, rfl⟩, hB8⟩
  · have hq' : (q != 0) = true := by simpa using hq
    go_wp2
    go_ret2
    exact ⟨.inr ⟨fun e => hq (by rw [hbq] at e; exact congrArg Prod.snd e), rfl⟩, hB6.alloc hB6.size _⟩

set_option maxRecDepth 100000 in
set_option maxHeartbeats 8000000 in
theorem line_fuse (a : ActD) (A : Option Addr) (c : Nat) (w : World) (hG : Glb w) (hA : ActOk a) (hd : a.data.length ≤ 2000) (hv : Kd.V (Kd.int .u8) 5 w 0 (fun _ => True) (.slice A a.data.length c) a.data) (hk : a.kind = 6) :
    Calls Tryd.prog 10 #[.agg #[.int .u8 6, .int .u8 a.mode, .int .i64 a.p, .int .i64 a.n, .int .u64 a.version, .slice A a.data.length c]] w (LineP w a) := by
  have hx : ([⟨(kindName 6).toArray⟩, ⟨(Lib.itoa a.n).toArray⟩] : List ByteArray).map (·.data.toList) = kindName a.kind :: lineRest a := by rw [hk]; simp [lineRest, hk]
  have hK0 := hA.kind0
  have hK1 := hA.kind1
  have hM0 := hA.mode0
  have hM1 := hA.mode1
  go_enter Tryd.func10, Tryd.ntmps10
  go_wp2_with fail
  refine (name_any 6 (by omega) (by omega) _).mono ?_
  rintro e w1 ⟨rfl, hb1⟩
  have hk1 := (hb1.block w.heap.size (by simp)).trans (heap_new w (.cells #[.int .u8 6, .int .u8 a.mode, .int .i64 a.p, .int .i64 a.n, .int .u64 a.version, .slice A a.data.length c] 36))
  have hk2 := fun o => (Below.heap_alloc w1 o _ (lt_of_block hk1)).trans hk1
  have a0 := fun o => (cells6 (hk2 o)).1.1
  have a1 := fun o => (cells6 (hk2 o)).1.2.1
  have hs1 : w.heap.size < w1.heap.size := lt_of_block hk1
  have hB1 : Below w.heap.size w w1 := ((Below.refl _ w).alloc (Nat.le_refl _) _).trans (hb1.mono (by simp))
  have hG1 : Glb w1 := hG.below hB1 hG.size
  have hG2 := fun o => Glb.below (w' := w1.alloc o) hG1 ((Below.refl _ w1).alloc (Nat.le_refl _) _) hG1.size
  have hown1 := own_one w1 ⟨(kindName 6).toArray⟩ (w.heap.size + 1) hs1
  go_wp2_with fail
  refine (num_any a.mode (by omega) (by omega) _ (hG2 _)).mono ?_
  rintro e w3 ⟨rfl, hb3⟩
  have hk3 := (hb3.block w.heap.size (by simp; omega)).trans (hk2 _)
  have hown3 := own_below hown1 hb3
  have hB3 : Below w.heap.size w w3 := (hB1.alloc (by have := hB1.size; omega) _).trans (hb3.mono (by have := hB1.size; simp; omega))
  have hG3 : Glb w3 := hG.below hB3 hG.size
  obtain ⟨⟨k0, k1, k2, k3, k4, k5⟩, _⟩ := cells6 hk3
  clear a0 a1 hk1 hk2 hown1 hG1 hG2 hb1 hb3
  go_wp2_with fail
  refine (num_any a.n hA.n0 hA.n1 _ hG3).mono ?_
  rintro e w4 ⟨rfl, hb4⟩
  have hB4 : Below w.heap.size w w4 := hB3.trans (hb4.mono hB3.size)
  have hk4 := (hb4.block w.heap.size (lt_of_block hk3)).trans hk3
  have hown4 := own_below hown3 hb4
  obtain ⟨i0, hi, hz0, hz1, hz2⟩ := info_parts infoString
  go_wp2_with (at_builtin; refine wpList_append_own _ rfl _ _ 51 rfl (w.heap.size + 1) 9 i0 (.string .empty) 1 16 Tryd.underlying51 hi hz0 hz1 hz2 rfl (by decide) _ _ _ rfl (hown4.alloc _) ⟨w4.heap.size, 0, none⟩ 1 1 [.string ⟨(Lib.itoa a.n).toArray⟩] rfl rfl ?c1 ?c2 ?c3 ?c4 ?c5 ?_)
  case c1 => exact cells_new w4 [.string ⟨(Lib.itoa a.n).toArray⟩] 9
  case c2 => intro u hu; simp at hu; subst hu; rfl
  case c3 => unfold maxLen; omega
  case c4 => omega
  case c5 => have := hB4.size; simp; omega
  intro v' w9 hown9 hgrow _
  have hs4 : w1.heap.size < w4.heap.size := lt_of_own hown4
  have hB9 : Below w.heap.size w w9 := (hB4.alloc hB4.size _).grown hgrow (by have := hB4.size; simp; omega) (fun k hk => by have e : w1.heap.size = k := Option.some.inj hk; omega)
  have hk9 : w9.heap[w.heap.size]? = _ := (hgrow.block w.heap.size (by have := hB4.size; simp; omega) (fun e => by have e' : w.heap.size = w1.heap.size := Option.some.inj e; omega)).trans ((Below.heap_alloc w4 _ _ (lt_of_block hk4)).trans hk4)
  obtain ⟨g9, c9, rfl⟩ := own_slice hown9 (by decide)
  clear hgrow hz2 hz1 hz0 hi i0 hown4 hk4 hs4 hB4 hown3 hk3 hG3 hs1 hB1
  go_wp2_with fail
  refine (join_line a _ _ _ 2 [⟨(kindName 6).toArray⟩, ⟨(Lib.itoa a.n).toArray⟩] (own_two hown9) rfl (by decide) (by decide) hx (lineTxt_le hA hd)).mono ?_
  rintro e w5 ⟨rfl, hb5⟩
  have hB5 : Below w.heap.size w w5 := hB9.trans (hb5.mono hB9.size)
  have hG5 : Glb w5 := hG.below hB5 hG.size
  have hk5 := (hb5.block w.heap.size (lt_of_block hk9)).trans hk9
  go_wp2_with fail
  refine (read_any ⟨(lineTxt a).toArray⟩ _ hG5 (txt_size hA hd)).mono ?_
  rintro e w6 ⟨v6, rfl, hv6, hb6⟩
  rw [txt_data] at hv6 ⊢
  obtain ⟨b, q, hbq⟩ : ∃ b q, readOf (lineTxt a) = (b, q) := ⟨_, _, rfl⟩
  rw [hbq] at hv6 ⊢
  have hB6 : Below w.heap.size w w6 := hB5.trans (hb6.mono hB5.size)
  have hk6 := (hb6.block w.heap.size (lt_of_block hk5)).trans hk5
  clear hk5 hb5 hB5 hG5
  obtain ⟨A6, c6, rfl⟩ := Kd.V_slice hv6
  have hk7 := fun o => (Below.heap_alloc w6 o _ (lt_of_block hk6)).trans hk6
  have m0 := fun o => (cells6 (hk7 o)).1.1
  have m1 := fun o => (cells6 (hk7 o)).1.2.1
  have m2 := fun o => (cells6 (hk7 o)).1.2.2.1
  have m3 := fun o => (cells6 (hk7 o)).1.2.2.2.1
  have m4 := fun o => (cells6 (hk7 o)).1.2.2.2.2.1
  have m5 := fun o => (cells6 (hk7 o)).1.2.2.2.2.2
  by_cases hq : q = 0
  · subst hq
    obtain ⟨r, hr, hi⟩ := same_bool a b hA.data (words_of_act (read_ok_act hbq)).2.2.data
    rw [hk] at hr
    obtain ⟨_, hca, hra⟩ := Kd.V_reads' (bytes_later hv (hB6.alloc hB6.size (.cells #[.int .u8 b.kind, .int .u8 b.mode, .int .i64 b.p, .int .i64 b.n, .int .u64 b.version, .slice A6 b.data.length c6] 36)))
    obtain ⟨_, hcb, hrb⟩ := Kd.V_reads' (Kd.V_alloc hv6 (.cells #[.int .u8 b.kind, .int .u8 b.mode, .int .i64 b.p, .int .i64 b.n, .int .u64 b.version, .slice A6 b.data.length c6] 36))
    go_wp2_with fail
    refine (script_same.calls _ _ _ _ _ A c a.data _ _ _ _ _ A6 c6 b.data r _ hra hca hrb hcb hr).mono ?_
    rintro e w8 ⟨rfl, hb8⟩
    have hB8 : Below w.heap.size w w8 := (hB6.alloc hB6.size _).trans (hb8.mono (by have := hB6.size; simp; omega))
    cases r with
    | true =>
      have hab := Lib.hid (hi.1 rfl)
      clear hi hr
      go_wp2
      go_ret2
      exact ⟨.inl ⟨by rw [hbq, hab.out], rfl⟩, hB8⟩
    | false =>
      have hab : RowKit.Hid (¬ a = b) := Lib.hid (fun e => absurd (hi.2 e) (by decide))
      clear hi hr
      go_wp2
      go_ret2
      exact ⟨.inr ⟨fun e => by rw [hbq] at e; exact hab.out (congrArg Prod.fst e).symm, rfl⟩, hB8⟩
  · have hq' : (q != 0) = true := by simpa using hq
    go_wp2
    go_ret2
    exact ⟨.inr ⟨fun e => hq (by rw [hbq] at e; exact congrArg Prod.snd e), rfl⟩, hB6.alloc hB6.size _⟩

set_option maxRecDepth 100000 in
set_option maxHeartbeats 8000000 in
theorem line_fall (a : ActD) (A : Option Addr) (c : Nat) (w : World) (hG : Glb w) (hA : ActOk a) (hd : a.data.length ≤ 2000) (hv : Kd.V (Kd.int .u8) 5 w 0 (fun _ => True) (.slice A a.data.length c) a.data) (hk : a.kind = 7) :
    Calls Tryd.prog 10 #[.agg #[.int .u8 7, .int .u8 a.mode, .int .i64 a.p, .int .i64 a.n, .int .u64 a.version, .slice A a.data.length c]] w (LineP w a) := by
  have hx : ([⟨(kindName 7).toArray⟩, ⟨(hexOf a.data).toArray⟩] : List ByteArray).map (·.data.toList) = kindName a.kind :: lineRest a := by rw [hk]; simp [lineRest, hk]
  have hK0 := hA.kind0
  have hK1 := hA.kind1
  have hM0 := hA.mode0
  have hM1 := hA.mode1
  go_enter Tryd.func10, Tryd.ntmps10
  go_wp2_with fail
  refine (name_any 7 (by omega) (by omega) _).mono ?_
  rintro e w1 ⟨rfl, hb1⟩
  have hk1 := (hb1.block w.heap.size (by simp)).trans (heap_new w (.cells #[.int .u8 7, .int .u8 a.mode, .int .i64 a.p, .int .i64 a.n, .int .u64 a.version, .slice A a.data.length c] 36))
  have hk2 := fun o => (Below.heap_alloc w1 o _ (lt_of_block hk1)).trans hk1
  have a0 := fun o => (cells6 (hk2 o)).1.1
  have a1 := fun o => (cells6 (hk2 o)).1.2.1
  have hs1 : w.heap.size < w1.heap.size := lt_of_block hk1
  have hB1 : Below w.heap.size w w1 := ((Below.refl _ w).alloc (Nat.le_refl _) _).trans (hb1.mono (by simp))
  have hG1 : Glb w1 := hG.below hB1 hG.size
  have hG2 := fun o => Glb.below (w' := w1.alloc o) hG1 ((Below.refl _ w1).alloc (Nat.le_refl _) _) hG1.size
  have hown1 := own_one w1 ⟨(kindName 7).toArray⟩ (w.heap.size + 1) hs1
  go_wp2_with fail
  refine (num_any a.mode (by omega) (by omega) _ (hG2 _)).mono ?_
  rintro e w3 ⟨rfl, hb3⟩
  have hk3 := (hb3.block w.heap.size (by simp; omega)).trans (hk2 _)
  have hown3 := own_below hown1 hb3
  have hB3 : Below w.heap.size w w3 := (hB1.alloc (by have := hB1.size; omega) _).trans (hb3.mono (by have := hB1.size; simp; omega))
  have hG3 : Glb w3 := hG.below hB3 hG.size
  obtain ⟨⟨k0, k1, k2, k3, k4, k5⟩, _⟩ := cells6 hk3
  clear a0 a1 hk1 hk2 hown1 hG1 hG2 hb1 hb3
  go_wp2_with fail
  refine (hex_any _ a.data _ (bytes_later hv hB3) hA.data (by omega)).mono ?_
  rintro e w4 ⟨rfl, hb4⟩
  have hB4 : Below w.heap.size w w4 := hB3.trans (hb4.mono hB3.size)
  have hk4 := (hb4.block w.heap.size (lt_of_block hk3)).trans hk3
  have hown4 := own_below hown3 hb4
  obtain ⟨i0, hi, hz0, hz1, hz2⟩ := info_parts infoString
  go_wp2_with (at_builtin; refine wpList_append_own _ rfl _ _ 51 rfl (w.heap.size + 1) 9 i0 (.string .empty) 1 16 Tryd.underlying51 hi hz0 hz1 hz2 rfl (by decide) _ _ _ rfl (hown4.alloc _) ⟨w4.heap.size, 0, none⟩ 1 1 [.string ⟨(hexOf a.data).toArray⟩] rfl rfl ?c1 ?c2 ?c3 ?c4 ?c5 ?_)
  case c1 => exact cells_new w4 [.string ⟨(hexOf a.data).toArray⟩] 9
  case c2 => intro u hu; simp at hu; subst hu; rfl
  case c3 => unfold maxLen; omega
  case c4 => omega
  case c5 => have := hB4.size; simp; omega
  intro v' w9 hown9 hgrow _
  have hs4 : w1.heap.size < w4.heap.size := lt_of_own hown4
  have hB9 : Below w.heap.size w w9 := (hB4.alloc hB4.size _).grown hgrow (by have := hB4.size; simp; omega) (fun k hk => by have e : w1.heap.size = k := Option.some.inj hk; omega)
  have hk9 : w9.heap[w.heap.size]? = _ := (hgrow.block w.heap.size (by have := hB4.size; simp; omega) (fun e => by have e' : w.heap.size = w1.heap.size := Option.some.inj e; omega)).trans ((Below.heap_alloc w4 _ _ (lt_of_block hk4)).trans hk4)
  obtain ⟨g9, c9, rfl⟩ := own_slice hown9 (by decide)
  clear hgrow hz2 hz1 hz0 hi i0 hown4 hk4 hs4 hB4 hown3 hk3 hG3 hs1 hB1
  go_wp2_with fail
  refine (join_line a _ _ _ 2 [⟨(kindName 7).toArray⟩, ⟨(hexOf a.data).toArray⟩] (own_two hown9) rfl (by decide) (by decide) hx (lineTxt_le hA hd)).mono ?_
  rintro e w5 ⟨rfl, hb5⟩
  have hB5 : Below w.heap.size w w5 := hB9.trans (hb5.mono hB9.size)
  have hG5 : Glb w5 := hG.below hB5 hG.size
  have hk5 := (hb5.block w.heap.size (lt_of_block hk9)).trans hk9
  go_wp2_with fail
  refine (read_any ⟨(lineTxt a).toArray⟩ _ hG5 (txt_size hA hd)).mono ?_
  rintro e w6 ⟨v6, rfl, hv6, hb6⟩
  rw [txt_data] at hv6 ⊢
  obtain ⟨b, q, hbq⟩ : ∃ b q, readOf (lineTxt a) = (b, q) := ⟨_, _, rfl⟩
  rw [hbq] at hv6 ⊢
  have hB6 : Below w.heap.size w w6 := hB5.trans (hb6.mono hB5.size)
  have hk6 := (hb6.block w.heap.size (lt_of_block hk5)).trans hk5
  clear hk5 hb5 hB5 hG5
  obtain ⟨A6, c6, rfl⟩ := Kd.V_slice hv6
  have hk7 := fun o => (Below.heap_alloc w6 o _ (lt_of_block hk6)).trans hk6
  have m0 := fun o => (cells6 (hk7 o)).1.1
  have m1 := fun o => (cells6 (hk7 o)).1.2.1
  have m2 := fun o => (cells6 (hk7 o)).1.2.2.1
  have m3 := fun o => (cells6 (hk7 o)).1.2.2.2.1
  have m4 := fun o => (cells6 (hk7 o)).1.2.2.2.2.1
  have m5 := fun o => (cells6 (hk7 o)).1.2.2.2.2.2
  by_cases hq : q = 0
  · subst hq
    obtain ⟨r, hr, hi⟩ := same_bool a b hA.data (words_of_act (read_ok_act hbq)).2.2.data
    rw [hk] at hr
    obtain ⟨_, hca, hra⟩ := Kd.V_reads' (bytes_later hv (hB6.alloc hB6.size (.cells #[.int .u8 b.kind, .int .u8 b.mode, .int .i64 b.p, .int .i64 b.n, .int .u64 b.version, .slice A6 b.data.length c6] 36)))
    obtain ⟨_, hcb, hrb⟩ := Kd.V_reads' (Kd.V_alloc hv6 (.cells #[.int .u8 b.kind, .int .u8 b.mode, .int .i64 b.p, .int .i64 b.n, .int .u64 b.version, .slice A6 b.data.length c6] 36))
    go_wp2_with fail
    refine (script_same.calls _ _ _ _ _ A c a.data _ _ _ _ _ A6 c6 b.data r _ hra hca hrb hcb hr).mono ?_
    rintro e w8 ⟨rfl, hb8⟩
    have hB8 : Below w.heap.size w w8 := (hB6.alloc hB6.size _).trans (hb8.mono (by have := hB6.size; simp; omega))
    cases r with
    | true =>
      have hab := Lib.hid (hi.1 rfl)
      clear hi hr
      go_wp2
      go_ret2
      exact ⟨.inl ⟨by rw [hbq, hab.out], rfl⟩, hB8⟩
    | false =>
      have hab : RowKit.Hid (¬ a = b) := Lib.hid (fun e => absurd (hi.2 e) (by decide))
      clear hi hr
      go_wp2
      go_ret2
      exact ⟨.inr ⟨fun e => by rw [hbq] at e; exact hab.out (congrArg Prod.fst e).symm, rfl⟩, hB8⟩
  · have hq' : (q != 0) = true := by simpa using hq
    go_wp2
    go_ret2
    exact ⟨.inr ⟨fun e => hq (by rw [hbq] at e; exact congrArg Prod.snd e), rfl⟩, hB6.alloc hB6.size _⟩

set_option maxRecDepth 100000 in
set_option maxHeartbeats 8000000 in
theorem line_build (a : ActD) (A : Option Addr) (c : Nat) (w : World) (hG : Glb w) (hA : ActOk a) (hd : a.data.length ≤ 2000) (hv : Kd.V (Kd.int .u8) 5 w 0 (fun _ => True) (.slice A a.data.length c) a.data) (hk : a.kind = 1) :
    Calls Tryd.prog 10 #[.agg #[.int .u8 1, .int .u8 a.mode, .int .i64 a.p, .int .i64 a.n, .int .u64 a.version, .slice A a.data.length c]] w (LineP w a) := by
  have hx : ([⟨(kindName 1).toArray⟩, ⟨(Lib.itoa a.mode).toArray⟩, ⟨(Lib.decDigits a.version.toNat).toArray⟩, ⟨(hexOf a.data).toArray⟩] : List ByteArray).map (·.data.toList) = kindName a.kind :: lineRest a := by rw [hk]; simp [lineRest, hk]
  have hK0 := hA.kind0
  have hK1 := hA.kind1
  have hM0 := hA.mode0
  have hM1 := hA.mode1
  go_enter Tryd.func10, Tryd.ntmps10
  go_wp2_with fail
  refine (name_any 1 (by omega) (by omega) _).mono ?_
  rintro e w1 ⟨rfl, hb1⟩
  have hk1 := (hb1.block w.heap.size (by simp)).trans (heap_new w (.cells #[.int .u8 1, .int .u8 a.mode, .int .i64 a.p, .int .i64 a.n, .int .u64 a.version, .slice A a.data.length c] 36))
  have hk2 := fun o => (Below.heap_alloc w1 o _ (lt_of_block hk1)).trans hk1
  have a0 := fun o => (cells6 (hk2 o)).1.1
  have a1 := fun o => (cells6 (hk2 o)).1.2.1
  have hs1 : w.heap.size < w1.heap.size := lt_of_block hk1
  have hB1 : Below w.heap.size w w1 := ((Below.refl _ w).alloc (Nat.le_refl _) _).trans (hb1.mono (by simp))
  have hG1 : Glb w1 := hG.below hB1 hG.size
  have hG2 := fun o => Glb.below (w' := w1.alloc o) hG1 ((Below.refl _ w1).alloc (Nat.le_refl _) _) hG1.size
  have hown1 := own_one w1 ⟨(kindName 1).toArray⟩ (w.heap.size + 1) hs1
  go_wp2_with fail
  refine (num_any a.mode (by omega) (by omega) _ (hG2 _)).mono ?_
  rintro e w3 ⟨rfl, hb3⟩
  have hk3 := (hb3.block w.heap.size (by simp; omega)).trans (hk2 _)
  have hown3 := own_below hown1 hb3
  have hB3 : Below w.heap.size w w3 := (hB1.alloc (by have := hB1.size; omega) _).trans (hb3.mono (by have := hB1.size; simp; omega))
  have hG3 : Glb w3 := hG.below hB3 hG.size
  obtain ⟨⟨k0, k1, k2, k3, k4, k5⟩, _⟩ := cells6 hk3
  clear a0 a1 hk1 hk2 hown1 hG1 hG2 hb1 hb3
  have hg3 := cell_of_own1 hown3
  have hT : Thru ⟨w.heap.size, 4, none⟩ ⟨w.heap.size, 5, none⟩ ⟨w1.heap.size, 0, none⟩ (.int .u64 a.version) (.slice A a.data.length c) (.string ⟨(kindName 1).toArray⟩) w3 w3 := ⟨k4, k5, hg3, Below.refl _ _⟩
  obtain ⟨i0, hi, hz0, hz1, hz2⟩ := info_parts infoString
  go_wp2_with fail
  go_region_held3 (fun W' => W'.cell? ⟨w.heap.size, 4, none⟩ = some (.int .u64 a.version) ∧ W'.cell? ⟨w.heap.size, 5, none⟩ = some (.slice A a.data.length c) ∧ W'.cell? ⟨w1.heap.size, 0, none⟩ = some (.string ⟨(kindName 1).toArray⟩) ∧ Below w3.heap.size w3 W')
    (first | exact thru_drew hT | exact thru_call (by assumption) (by assumption) | exact thru_alloc (by assumption) _ | exact thru_grown (by assumption) (by assumption))
    (first
      | (go_at_call 17; refine (formatUint_int a.version hA.ver0 hA.ver1 _ (thru_glb hG hB3 (by assumption))).mono ?_; rintro e w' ⟨rfl, hbx⟩)
      | (go_at_call 12; refine (hex_any _ a.data _ (bytes_later hv (thru_below hB3 (by assumption))) hA.data (by omega)).mono ?_; rintro e w' ⟨rfl, hbx⟩)
      | (refine step_append_grows rfl _ _ 51 rfl 9 i0 (.string .empty) 1 16 Tryd.underlying51 hi hz0 hz1 hz2 rfl (by decide) (some ⟨w1.heap.size, 0, none⟩) 1 1 [.string ⟨(kindName 1).toArray⟩] rfl (fun h => by cases h) rfl (thru_old (by assumption)) _ 3 3 [.string ⟨(Lib.itoa a.mode).toArray⟩, .string ⟨(Lib.decDigits a.version.toNat).toArray⟩, .string ⟨(hexOf a.data).toArray⟩] rfl rfl (cells_new _ [.string ⟨(Lib.itoa a.mode).toArray⟩, .string ⟨(Lib.decDigits a.version.toNat).toArray⟩, .string ⟨(hexOf a.data).toArray⟩] 9) (by intro u hu; simp only [List.mem_cons, List.not_mem_nil, or_false] at hu; rcases hu with rfl | rfl | rfl <;> rfl) (by decide) (by unfold maxLen; decide) (by decide) ?_
         intro v9 w9 hown9 hgrow))
  all_goals
    have hT9 : Thru ⟨w.heap.size, 4, none⟩ ⟨w.heap.size, 5, none⟩ ⟨w1.heap.size, 0, none⟩ (.int .u64 a.version) (.slice A a.data.length c) (.string ⟨(kindName 1).toArray⟩) w3 w9 := by assumption
    obtain ⟨g9, c9, rfl⟩ := own_slice hown9 (by decide)
    have hB9 : Below w.heap.size w w9 := thru_below hB3 hT9
    have hk9 := (hT9.2.2.2.block w.heap.size (lt_of_block hk3)).trans hk3
    clear hT9 hT hgrow hz2 hz1 hz0 hi i0 hown3 hk3 hG3 hs1 hB1 hg3
    go_wp2_with fail
    refine (join_line a _ _ _ 4 [⟨(kindName 1).toArray⟩, ⟨(Lib.itoa a.mode).toArray⟩, ⟨(Lib.decDigits a.version.toNat).toArray⟩, ⟨(hexOf a.data).toArray⟩] (own_four hown9) rfl (by decide) (by decide) hx (lineTxt_le hA hd)).mono ?_
    rintro e w5 ⟨rfl, hb5⟩
    have hB5 : Below w.heap.size w w5 := hB9.trans (hb5.mono hB9.size)
    have hG5 : Glb w5 := hG.below hB5 hG.size
    have hk5 := (hb5.block w.heap.size (lt_of_block hk9)).trans hk9
    go_wp2_with fail
    refine (read_any ⟨(lineTxt a).toArray⟩ _ hG5 (txt_size hA hd)).mono ?_
    rintro e w6 ⟨v6, rfl, hv6, hb6⟩
    rw [txt_data] at hv6 ⊢
    obtain ⟨b, q, hbq⟩ : ∃ b q, readOf (lineTxt a) = (b, q) := ⟨_, _, rfl⟩
    rw [hbq] at hv6 ⊢
    have hB6 : Below w.heap.size w w6 := hB5.trans (hb6.mono hB5.size)
    have hk6 := (hb6.block w.heap.size (lt_of_block hk5)).trans hk5
    clear hk5 hb5 hB5 hG5
    obtain ⟨A6, c6, rfl⟩ := Kd.V_slice hv6
    have hk7 := fun o => (Below.heap_alloc w6 o _ (lt_of_block hk6)).trans hk6
    have m0 := fun o => (cells6 (hk7 o)).1.1
    have m1 := fun o => (cells6 (hk7 o)).1.2.1
    have m2 := fun o => (cells6 (hk7 o)).1.2.2.1
    have m3 := fun o => (cells6 (hk7 o)).1.2.2.2.1
    have m4 := fun o => (cells6 (hk7 o)).1.2.2.2.2.1
    have m5 := fun o => (cells6 (hk7 o)).1.2.2.2.2.2
    by_cases hq : q = 0
    · subst hq
      obtain ⟨r, hr, hi⟩ := same_bool a b hA.data (words_of_act (read_ok_act hbq)).2.2.data
      rw [hk] at hr
      obtain ⟨_, hca, hra⟩ := Kd.V_reads' (bytes_later hv (hB6.alloc hB6.size (.cells #[.int .u8 b.kind, .int .u8 b.mode, .int .i64 b.p, .int .i64 b.n, .int .u64 b.version, .slice A6 b.data.length c6] 36)))
      obtain ⟨_, hcb, hrb⟩ := Kd.V_reads' (Kd.V_alloc hv6 (.cells #[.int .u8 b.kind, .int .u8 b.mode, .int .i64 b.p, .int .i64 b.n, .int .u64 b.version, .slice A6 b.data.length c6] 36))
      go_wp2_with fail
      refine (script_same.calls _ _ _ _ _ A c a.data _ _ _ _ _ A6 c6 b.data r _ hra hca hrb hcb hr).mono ?_
      rintro e w8 ⟨rfl, hb8⟩
      have hB8 : Below w.heap.size w w8 := (hB6.alloc hB6.size _).trans (hb8.mono (by have := hB6.size; simp; omega))
      cases r with
      | true =>
        have hab := Lib.hid (hi.1 rfl)
        clear hi hr
        go_wp2
        go_ret2
        exact ⟨.inl ⟨by rw [hbq, hab.out], rfl⟩, hB8⟩
      | false =>
        have hab : RowKit.Hid (¬ a = b) := Lib.hid (fun e => absurd (hi.2 e) (by decide))
        clear hi hr
        go_wp2
        go_ret2
        exact ⟨.inr ⟨fun e => by rw [hbq] at e; exact hab.out (congrArg Prod.fst e).symm, rfl⟩, hB8⟩
    · have hq' : (q != 0) = true := by simpa using hq
      go_wp2
      go_ret2
      exact ⟨.inr ⟨fun e => hq (by rw [hbq] at e; exact congrArg Prod.snd e), rfl⟩, hB6.alloc hB6.size _⟩

set_option maxRecDepth 100000 in
set_option maxHeartbeats 8000000 in
theorem line_feed (a : ActD) (A : Option Addr) (c : Nat) (w : World) (hG : Glb w) (hA : ActOk a) (hd : a.data.length ≤ 2000) (hv : Kd.V (Kd.int .u8) 5 w 0 (fun _ => True) (.slice A a.data.length c) a.data) (hk : a.kind = 2) :
    Calls Tryd.prog 10 #[.agg #[.int .u8 2, .int .u8 a.mode, .int .i64 a.p, .int .i64 a.n, .int .u64 a.version, .slice A a.data.length c]] w (LineP w a) := by
  have hx : ([⟨(kindName 2).toArray⟩, ⟨(Lib.itoa a.p).toArray⟩, ⟨(Lib.itoa a.n).toArray⟩] : List ByteArray).map (·.data.toList) = kindName a.kind :: lineRest a := by rw [hk]; simp [lineRest, hk]
  have hK0 := hA.kind0
  have hK1 := hA.kind1
  have hM0 := hA.mode0
  have hM1 := hA.mode1
  go_enter Tryd.func10, Tryd.ntmps10
  go_wp2_with fail
  refine (name_any 2 (by omega) (by omega) _).mono ?_
  rintro e w1 ⟨rfl, hb1⟩
  have hk1 := (hb1.block w.heap.size (by simp)).trans (heap_new w (.cells #[.int .u8 2, .int .u8 a.mode, .int .i64 a.p, .int .i64 a.n, .int .u64 a.version, .slice A a.data.length c] 36))
  have hk2 := fun o => (Below.heap_alloc w1 o _ (lt_of_block hk1)).trans hk1
  have a0 := fun o => (cells6 (hk2 o)).1.1
  have a1 := fun o => (cells6 (hk2 o)).1.2.1
  have hs1 : w.heap.size < w1.heap.size := lt_of_block hk1
  have hB1 : Below w.heap.size w w1 := ((Below.refl _ w).alloc (Nat.le_refl _) _).trans (hb1.mono (by simp))
  have hG1 : Glb w1 := hG.below hB1 hG.size
  have hG2 := fun o => Glb.below (w' := w1.alloc o) hG1 ((Below.refl _ w1).alloc (Nat.le_refl _) _) hG1.size
  have hown1 := own_one w1 ⟨(kindName 2).toArray⟩ (w.heap.size + 1) hs1
  go_wp2_with fail
  refine (num_any a.mode (by omega) (by omega) _ (hG2 _)).mono ?_
  rintro e w3 ⟨rfl, hb3⟩
  have hk3 := (hb3.block w.heap.size (by simp; omega)).trans (hk2 _)
  have hown3 := own_below hown1 hb3
  have hB3 : Below w.heap.size w w3 := (hB1.alloc (by have := hB1.size; omega) _).trans (hb3.mono (by have := hB1.size; simp; omega))
  have hG3 : Glb w3 := hG.below hB3 hG.size
  obtain ⟨⟨k0, k1, k2, k3, k4, k5⟩, _⟩ := cells6 hk3
  clear a0 a1 hk1 hk2 hown1 hG1 hG2 hb1 hb3
  have hg3 := cell_of_own1 hown3
  have hT : Thru ⟨w.heap.size, 2, none⟩ ⟨w.heap.size, 3, none⟩ ⟨w1.heap.size, 0, none⟩ (.int .i64 a.p) (.int .i64 a.n) (.string ⟨(kindName 2).toArray⟩) w3 w3 := ⟨k2, k3, hg3, Below.refl _ _⟩
  obtain ⟨i0, hi, hz0, hz1, hz2⟩ := info_parts infoString
  go_wp2_with fail
  go_region_held3 (fun W' => W'.cell? ⟨w.heap.size, 2, none⟩ = some (.int .i64 a.p) ∧ W'.cell? ⟨w.heap.size, 3, none⟩ = some (.int .i64 a.n) ∧ W'.cell? ⟨w1.heap.size, 0, none⟩ = some (.string ⟨(kindName 2).toArray⟩) ∧ Below w3.heap.size w3 W')
    (first | exact thru_drew hT | exact thru_call (by assumption) (by assumption) | exact thru_alloc (by assumption) _ | exact thru_grown (by assumption) (by assumption))
    (first
      | (go_at_call 16; refine (num_any a.p hA.p0 hA.p1 _ (thru_glb hG hB3 (by assumption))).mono ?_; rintro e w' ⟨rfl, hbx⟩)
      | (go_at_call 16; refine (num_any a.n hA.n0 hA.n1 _ (thru_glb hG hB3 (by assumption))).mono ?_; rintro e w' ⟨rfl, hbx⟩)
      | (refine step_append_grows rfl _ _ 51 rfl 9 i0 (.string .empty) 1 16 Tryd.underlying51 hi hz0 hz1 hz2 rfl (by decide) (some ⟨w1.heap.size, 0, none⟩) 1 1 [.string ⟨(kindName 2).toArray⟩] rfl (fun h => by cases h) rfl (thru_old (by assumption)) _ 2 2 [.string ⟨(Lib.itoa a.p).toArray⟩, .string ⟨(Lib.itoa a.n).toArray⟩] rfl rfl (cells_new _ [.string ⟨(Lib.itoa a.p).toArray⟩, .string ⟨(Lib.itoa a.n).toArray⟩] 9) (by intro u hu; simp only [List.mem_cons, List.not_mem_nil, or_false] at hu; rcases hu with rfl | rfl <;> rfl) (by decide) (by unfold maxLen; decide) (by decide) ?_
         intro v9 w9 hown9 hgrow))
  all_goals
    have hT9 : Thru ⟨w.heap.size, 2, none⟩ ⟨w.heap.size, 3, none⟩ ⟨w1.heap.size, 0, none⟩ (.int .i64 a.p) (.int .i64 a.n) (.string ⟨(kindName 2).toArray⟩) w3 w9 := by assumption
    obtain ⟨g9, c9, rfl⟩ := own_slice hown9 (by decide)
    have hB9 : Below w.heap.size w w9 := thru_below hB3 hT9
    have hk9 := (hT9.2.2.2.block w.heap.size (lt_of_block hk3)).trans hk3
    clear hT9 hT hgrow hz2 hz1 hz0 hi i0 hown3 hk3 hG3 hs1 hB1 hg3
    go_wp2_with fail
    refine (join_line a _ _ _ 3 [⟨(kindName 2).toArray⟩, ⟨(Lib.itoa a.p).toArray⟩, ⟨(Lib.itoa a.n).toArray⟩] (own_three hown9) rfl (by decide) (by decide) hx (lineTxt_le hA hd)).mono ?_
    rintro e w5 ⟨rfl, hb5⟩
    have hB5 : Below w.heap.size w w5 := hB9.trans (hb5.mono hB9.size)
    have hG5 : Glb w5 := hG.below hB5 hG.size
    have hk5 := (hb5.block w.heap.size (lt_of_block hk9)).trans hk9
    go_wp2_with fail
    refine (read_any ⟨(lineTxt a).toArray⟩ _ hG5 (txt_size hA hd)).mono ?_
    rintro e w6 ⟨v6, rfl, hv6, hb6⟩
    rw [txt_data] at hv6 ⊢
    obtain ⟨b, q, hbq⟩ : ∃ b q, readOf (lineTxt a) = (b, q) := ⟨_, _, rfl⟩
    rw [hbq] at hv6 ⊢
    have hB6 : Below w.heap.size w w6 := hB5.trans (hb6.mono hB5.size)
    have hk6 := (hb6.block w.heap.size (lt_of_block hk5)).trans hk5
    clear hk5 hb5 hB5 hG5
    obtain ⟨A6, c6, rfl⟩ := Kd.V_slice hv6
    have hk7 := fun o => (Below.heap_alloc w6 o _ (lt_of_block hk6)).trans hk6
    have m0 := fun o => (cells6 (hk7 o)).1.1
    have m1 := fun o => (cells6 (hk7 o)).1.2.1
    have m2 := fun o => (cells6 (hk7 o)).1.2.2.1
    have m3 := fun o => (cells6 (hk7 o)).1.2.2.2.1
    have m4 := fun o => (cells6 (hk7 o)).1.2.2.2.2.1
    have m5 := fun o => (cells6 (hk7 o)).1.2.2.2.2.2
    by_cases hq : q = 0
    · subst hq
      obtain ⟨r, hr, hi⟩ := same_bool a b hA.data (words_of_act (read_ok_act hbq)).2.2.data
      rw [hk] at hr
      obtain ⟨_, hca, hra⟩ := Kd.V_reads' (bytes_later hv (hB6.alloc hB6.size (.cells #[.int .u8 b.kind, .int .u8 b.mode, .int .i64 b.p, .int .i64 b.n, .int .u64 b.version, .slice A6 b.data.length c6] 36)))
      obtain ⟨_, hcb, hrb⟩ := Kd.V_reads' (Kd.V_alloc hv6 (.cells #[.int .u8 b.kind, .int .u8 b.mode, .int .i64 b.p, .int .i64 b.n, .int .u64 b.version, .slice A6 b.data.length c6] 36))
      go_wp2_with fail
      refine (script_same.calls _ _ _ _ _ A c a.data _ _ _ _ _ A6 c6 b.data r _ hra hca hrb hcb hr).mono ?_
      rintro e w8 ⟨rfl, hb8⟩
      have hB8 : Below w.heap.size w w8 := (hB6.alloc hB6.size _).trans (hb8.mono (by have := hB6.size; simp; omega))
      cases r with
      | true =>
        have hab := Lib.hid (hi.1 rfl)
        clear hi hr
        go_wp2
        go_ret2
        exact ⟨.inl ⟨by rw [hbq, hab.out], rfl⟩, hB8⟩
      | false =>
        have hab : RowKit.Hid (¬ a = b) := Lib.hid (fun e => absurd (hi.2 e) (by decide))
        clear hi hr
        go_wp2
        go_ret2
        exact ⟨.inr ⟨fun e => by rw [hbq] at e; exact hab.out (congrArg Prod.fst e).symm, rfl⟩, hB8⟩
    · have hq' : (q != 0) = true := by simpa using hq
      go_wp2
      go_ret2
      exact ⟨.inr ⟨fun e => hq (by rw [hbq] at e; exact congrArg Prod.snd e), rfl⟩, hB6.alloc hB6.size _⟩

set_option maxRecDepth 100000 in
set_option maxHeartbeats 8000000 in
theorem line_spoil (a : ActD) (A : Option Addr) (c : Nat) (w : World) (hG : Glb w) (hA : ActOk a) (hd : a.data.length ≤ 2000) (hv : Kd.V (Kd.int .u8) 5 w 0 (fun _ => True) (.slice A a.data.length c) a.data) (hk : a.kind = 8) :
    Calls Tryd.prog 10 #[.agg #[.int .u8 8, .int .u8 a.mode, .int .i64 a.p, .int .i64 a.n, .int .u64 a.version, .slice A a.data.length c]] w (LineP w a) := by
  have hx : ([⟨(kindName 8).toArray⟩, ⟨(Lib.itoa a.p).toArray⟩, ⟨(Lib.itoa a.n).toArray⟩, ⟨(Lib.itoa a.mode).toArray⟩] : List ByteArray).map (·.data.toList) = kindName a.kind :: lineRest a := by rw [hk]; simp [lineRest, hk]
  have hK0 := hA.kind0
  have hK1 := hA.kind1
  have hM0 := hA.mode0
  have hM1 := hA.mode1
  go_enter Tryd.func10, Tryd.ntmps10
  go_wp2_with fail
  refine (name_any 8 (by omega) (by omega) _).mono ?_
  rintro e w1 ⟨rfl, hb1⟩
  have hk1 := (hb1.block w.heap.size (by simp)).trans (heap_new w (.cells #[.int .u8 8, .int .u8 a.mode, .int .i64 a.p, .int .i64 a.n, .int .u64 a.version, .slice A a.data.length c] 36))
  have hk2 := fun o => (Below.heap_alloc w1 o _ (lt_of_block hk1)).trans hk1
  have a0 := fun o => (cells6 (hk2 o)).1.1
  have a1 := fun o => (cells6 (hk2 o)).1.2.1
  have hs1 : w.heap.size < w1.heap.size := lt_of_block hk1
  have hB1 : Below w.heap.size w w1 := ((Below.refl _ w).alloc (Nat.le_refl _) _).trans (hb1.mono (by simp))
  have hG1 : Glb w1 := hG.below hB1 hG.size
  have hG2 := fun o => Glb.below (w' := w1.alloc o) hG1 ((Below.refl _ w1).alloc (Nat.le_refl _) _) hG1.size
  have hown1 := own_one w1 ⟨(kindName 8).toArray⟩ (w.heap.size + 1) hs1
  go_wp2_with fail
  refine (num_any a.mode (by omega) (by omega) _ (hG2 _)).mono ?_
  rintro e w3 ⟨rfl, hb3⟩
  have hk3 := (hb3.block w.heap.size (by simp; omega)).trans (hk2 _)
  have hown3 := own_below hown1 hb3
  have hB3 : Below w.heap.size w w3 := (hB1.alloc (by have := hB1.size; omega) _).trans (hb3.mono (by have := hB1.size; simp; omega))
  have hG3 : Glb w3 := hG.below hB3 hG.size
  obtain ⟨⟨k0, k1, k2, k3, k4, k5⟩, _⟩ := cells6 hk3
  clear a0 a1 hk1 hk2 hown1 hG1 hG2 hb1 hb3
  have hg3 := cell_of_own1 hown3
  have hT : Thru ⟨w.heap.size, 2, none⟩ ⟨w.heap.size, 3, none⟩ ⟨w1.heap.size, 0, none⟩ (.int .i64 a.p) (.int .i64 a.n) (.string ⟨(kindName 8).toArray⟩) w3 w3 := ⟨k2, k3, hg3, Below.refl _ _⟩
  obtain ⟨i0, hi, hz0, hz1, hz2⟩ := info_parts infoString
  go_wp2_with fail
  go_region_held3 (fun W' => W'.cell? ⟨w.heap.size, 2, none⟩ = some (.int .i64 a.p) ∧ W'.cell? ⟨w.heap.size, 3, none⟩ = some (.int .i64 a.n) ∧ W'.cell? ⟨w1.heap.size, 0, none⟩ = some (.string ⟨(kindName 8).toArray⟩) ∧ Below w3.heap.size w3 W')
    (first | exact thru_drew hT | exact thru_call (by assumption) (by assumption) | exact thru_alloc (by assumption) _ | exact thru_grown (by assumption) (by assumption))
    (first
      | (go_at_call 16; refine (num_any a.p hA.p0 hA.p1 _ (thru_glb hG hB3 (by assumption))).mono ?_; rintro e w' ⟨rfl, hbx⟩)
      | (go_at_call 16; refine (num_any a.n hA.n0 hA.n1 _ (thru_glb hG hB3 (by assumption))).mono ?_; rintro e w' ⟨rfl, hbx⟩)
      | (refine step_append_grows rfl _ _ 51 rfl 9 i0 (.string .empty) 1 16 Tryd.underlying51 hi hz0 hz1 hz2 rfl (by decide) (some ⟨w1.heap.size, 0, none⟩) 1 1 [.string ⟨(kindName 8).toArray⟩] rfl (fun h => by cases h) rfl (thru_old (by assumption)) _ 3 3 [.string ⟨(Lib.itoa a.p).toArray⟩, .string ⟨(Lib.itoa a.n).toArray⟩, .string ⟨(Lib.itoa a.mode).toArray⟩] rfl rfl (cells_new _ [.string ⟨(Lib.itoa a.p).toArray⟩, .string ⟨(Lib.itoa a.n).toArray⟩, .string ⟨(Lib.itoa a.mode).toArray⟩] 9) (by intro u hu; simp only [List.mem_cons, List.not_mem_nil, or_false] at hu; rcases hu with rfl | rfl | rfl <;> rfl) (by decide) (by unfold maxLen; decide) (by decide) ?_
         intro v9 w9 hown9 hgrow))
  all_goals
    have hT9 : Thru ⟨w.heap.size, 2, none⟩ ⟨w.heap.size, 3, none⟩ ⟨w1.heap.size, 0, none⟩ (.int .i64 a.p) (.int .i64 a.n) (.string ⟨(kindName 8).toArray⟩) w3 w9 := by assumption
    obtain ⟨g9, c9, rfl⟩ := own_slice hown9 (by decide)
    have hB9 : Below w.heap.size w w9 := thru_below hB3 hT9
    have hk9 := (hT9.2.2.2.block w.heap.size (lt_of_block hk3)).trans hk3
    clear hT9 hT hgrow hz2 hz1 hz0 hi i0 hown3 hk3 hG3 hs1 hB1 hg3
    go_wp2_with fail
    refine (join_line a _ _ _ 4 [⟨(kindName 8).toArray⟩, ⟨(Lib.itoa a.p).toArray⟩, ⟨(Lib.itoa a.n).toArray⟩, ⟨(Lib.itoa a.mode).toArray⟩] (own_four hown9) rfl (by decide) (by decide) hx (lineTxt_le hA hd)).mono ?_
    rintro e w5 ⟨rfl, hb5⟩
    have hB5 : Below w.heap.size w w5 := hB9.trans (hb5.mono hB9.size)
    have hG5 : Glb w5 := hG.below hB5 hG.size
    have hk5 := (hb5.block w.heap.size (lt_of_block hk9)).trans hk9
    go_wp2_with fail
    refine (read_any ⟨(lineTxt a).toArray⟩ _ hG5 (txt_size hA hd)).mono ?_
    rintro e w6 ⟨v6, rfl, hv6, hb6⟩
    rw [txt_data] at hv6 ⊢
    obtain ⟨b, q, hbq⟩ : ∃ b q, readOf (lineTxt a) = (b, q) := ⟨_, _, rfl⟩
    rw [hbq] at hv6 ⊢
    have hB6 : Below w.heap.size w w6 := hB5.trans (hb6.mono hB5.size)
    have hk6 := (hb6.block w.heap.size (lt_of_block hk5)).trans hk5
    clear hk5 hb5 hB5 hG5
    obtain ⟨A6, c6, rfl⟩ := Kd.V_slice hv6
    have hk7 := fun o => (Below.heap_alloc w6 o _ (lt_of_block hk6)).trans hk6
    have m0 := fun o => (cells6 (hk7 o)).1.1
    have m1 := fun o => (cells6 (hk7 o)).1.2.1
    have m2 := fun o => (cells6 (hk7 o)).1.2.2.1
    have m3 := fun o => (cells6 (hk7 o)).1.2.2.2.1
    have m4 := fun o => (cells6 (hk7 o)).1.2.2.2.2.1
    have m5 := fun o => (cells6 (hk7 o)).1.2.2.2.2.2
    by_cases hq : q = 0
    · subst hq
      obtain ⟨r, hr, hi⟩ := same_bool a b hA.data (words_of_act (read_ok_act hbq)).2.2.data
      rw [hk] at hr
      obtain ⟨_, hca, hra⟩ := Kd.V_reads' (bytes_later hv (hB6.alloc hB6.size (.cells #[.int .u8 b.kind, .int .u8 b.mode, .int .i64 b.p, .int .i64 b.n, .int .u64 b.version, .slice A6 b.data.length c6] 36)))
      obtain ⟨_, hcb, hrb⟩ := Kd.V_reads' (Kd.V_alloc hv6 (.cells #[.int .u8 b.kind, .int .u8 b.mode, .int .i64 b.p, .int .i64 b.n, .int .u64 b.version, .slice A6 b.data.length c6] 36))
      go_wp2_with fail
      refine (script_same.calls _ _ _ _ _ A c a.data _ _ _ _ _ A6 c6 b.data r _ hra hca hrb hcb hr).mono ?_
      rintro e w8 ⟨rfl, hb8⟩
      have hB8 : Below w.heap.size w w8 := (hB6.alloc hB6.size _).trans (hb8.mono (by have := hB6.size; simp; omega))
      cases r with
      | true =>
        have hab := Lib.hid (hi.1 rfl)
        clear hi hr
        go_wp2
        go_ret2
        exact ⟨.inl ⟨by rw [hbq, hab.out], rfl⟩, hB8⟩
      | false =>
        have hab : RowKit.Hid (¬ a = b) := Lib.hid (fun e => absurd (hi.2 e) (by decide))
        clear hi hr
        go_wp2
        go_ret2
        exact ⟨.inr ⟨fun e => by rw [hbq] at e; exact hab.out (congrArg Prod.fst e).symm, rfl⟩, hB8⟩
    · have hq' : (q != 0) = true := by simpa using hq
      go_wp2
      go_ret2
      exact ⟨.inr ⟨fun e => hq (by rw [hbq] at e; exact congrArg Prod.snd e), rfl⟩, hB6.alloc hB6.size _⟩

/-- Line, of any act. -/
theorem line_any (a : ActD) (A : Option Addr) (c : Nat) (w : World) (hG : Glb w) (hA : ActOk a) (hd : a.data.length ≤ 2000) (hv : Kd.V (Kd.int .u8) 5 w 0 (fun _ => True) (.slice A a.data.length c) a.data) :
    Calls Tryd.prog 10 #[.agg #[.int .u8 a.kind, .int .u8 a.mode, .int .i64 a.p, .int .i64 a.n, .int .u64 a.version, .slice A a.data.length c]] w (LineP w a) := by
  by_cases h1 : a.kind = 1
  · rw [h1]; exact line_build a A c w hG hA hd hv h1
  by_cases h2 : a.kind = 2
  · rw [h2]; exact line_feed a A c w hG hA hd hv h2
  by_cases h8 : a.kind = 8
  · rw [h8]; exact line_spoil a A c w hG hA hd hv h8
  by_cases h6 : a.kind = 6
  · rw [h6]; exact line_fuse a A c w hG hA hd hv h6
  by_cases h7 : a.kind = 7
  · rw [h7]; exact line_fall a A c w hG hA hd hv h7
  exact line_other a A c w hG hA hd hv (beq_eq_false_iff_ne.2 h1) (beq_eq_false_iff_ne.2 h2) (beq_eq_false_iff_ne.2 h8) (beq_eq_false_iff_ne.2 h6) (beq_eq_false_iff_ne.2 h7)
end Go.Proofs.YtkiikpojeogicaaDoor
