/-
  DERIVED. '(*words).number', for any most that is an int32: the number, or it throws.
-/
import Derived.Test.YtccnmbfigpjkaaaGreatDoorWc
namespace Go.Proofs.YtccnmbfigpjkaaaGreatDoor
open Go.RowKit Go.Sort Go.Proofs.YtccnmbfigpjkaaaGreatDoorW.PrintWords
open Scr

set_option maxRecDepth 100000 in
theorem number_nil (B : Nat) {N : Nat} (v : Value) (most : Int) (w : World) (hv : Var B w v) (hs : Ws B N w v []) : Calls Tryz.prog 96 #[.pointer (some ⟨B, 0, none⟩), .int .i64 most] w (Thr B w 3) := by
  go_enter Tryz.func96, Tryz.ntmps96
  go_wp2_with (go_at_call 95; refine (next_nil B v _ hv hs).mono ?_; rintro e w' ⟨rfl, v', hu⟩)
  exact ⟨rfl, rfl, _, hu⟩

theorem parse32_lt {s : List UInt8} {n : Nat} (h : Lib.parseUintB 32 s = .ok n) : n < 4294967296 := by
  have := Lib.parseUintB_le h
  omega

theorem beq_str {s : ByteArray} {l : List UInt8} (h : l = s.data.toList) : (l == s.toList) = true := by rw [ByteArray.toList_eq]; exact beq_iff_eq.2 h
theorem bne_str {s : ByteArray} {l : List UInt8} (h : ¬ l = s.data.toList) : (l == s.toList) = false := by rw [ByteArray.toList_eq]; exact beq_eq_false_iff_ne.2 h

/-- The world behind strconv.ParseUint that has read a number. -/
theorem parse_ok (s : ByteArray) (n : Nat) (w : World) (hz : s.size ≤ 1099511627776) (h : Lib.parseUintB 32 s.data.toList = .ok n) :
    Calls Tryz.prog 154 #[.string s, .int .i64 10, .int .i64 32] w fun e w' => e = .returned (.tuple #[.int .u64 n, .nilIface]) ∧ Below w.heap.size w w' :=
  (Tryz.strconv_ParseUint_10_at32_ok s (by omega) n h w).mono fun e w' ⟨he, hw⟩ => ⟨he, by rcases hw with rfl | rfl; exact Below.refl _ _; exact Lib.bytesWorld_below _ _ _⟩
/-- The error that strconv.ParseUint hands back. -/
def SomeErr (w : World) (e : Ending) (w' : World) : Prop := ∃ n N, e = .returned (.tuple #[.int .u64 n, .iface 356 (.pointer (some ⟨N, 0, none⟩))]) ∧ Below w.heap.size w w'
theorem parse_bad (s : ByteArray) (w : World) (hG : Glb w) (hz : s.size ≤ 1099511627776) (h : ∀ n, ¬ Lib.parseUintB 32 s.data.toList = .ok n) :
    Calls Tryz.prog 154 #[.string s, .int .i64 10, .int .i64 32] w (SomeErr w) := by
  cases hp : Lib.parseUintB 32 s.data.toList with
  | ok n => exact absurd hp (h n)
  | range =>
    obtain ⟨tp, p, hv⟩ := hG.rng
    exact (Tryz.strconv_ParseUint_10_at32_range_var s (by omega) hp tp p w hv).mono fun e w' ⟨N, he, _, _, hb⟩ => ⟨_, N, he, hb⟩
  | _ =>
    obtain ⟨tp, p, hv⟩ := hG.syn
    exact (Tryz.strconv_ParseUint_10_at32_bad_var s (by omega) (by rw [hp]; trivial) tp p w hv).mono fun e w' ⟨N, he, _, _, hb⟩ => ⟨_, N, he, hb⟩

set_option maxRecDepth 100000 in
theorem number_bad (B : Nat) {N : Nat} (v : Value) (s : ByteArray) (ss : List ByteArray) (most : Int) (w : World) (hG : Glb w) (hB : 8 ≤ B) (hv : Var B w v) (hs : Ws B N w v (s :: ss)) (hz : s.size ≤ 1099511627776)
    (h : ∀ n, ¬ Lib.parseUintB 32 s.data.toList = .ok n) : Calls Tryz.prog 96 #[.pointer (some ⟨B, 0, none⟩), .int .i64 most] w (Thr B w 3) := by
  have HH := Lib.hid h
  clear h
  go_enter Tryz.func96, Tryz.ntmps96
  go_wp2_with (first
    | (go_at_call 95; refine (next_cons B v s ss _ hv hs).mono ?_; rintro e w1 ⟨rfl, v1, hu, hq⟩)
    | (go_at_call 154; refine (parse_bad s _ (hG.upd hu hB) hz HH.out).mono ?_; rintro e w2 ⟨n, N, rfl, hb⟩))
  exact ⟨rfl, rfl, _, hu.below hb⟩

set_option maxRecDepth 100000 in
theorem number_great (B : Nat) {N : Nat} (v : Value) (s : ByteArray) (ss : List ByteArray) (n most : Nat) (w : World) (hv : Var B w v) (hs : Ws B N w v (s :: ss)) (hz : s.size ≤ 1099511627776) (hm : most ≤ 2147483647)
    (h : Lib.parseUintB 32 s.data.toList = .ok n) (hgt : most < n) : Calls Tryz.prog 96 #[.pointer (some ⟨B, 0, none⟩), .int .i64 most] w (Thr B w 3) := by
  have HH := Lib.hid h
  have hl := parse32_lt h
  clear h
  have hgt' : (most : Int) < (n : Int) := by omega
  go_enter Tryz.func96, Tryz.ntmps96
  go_wp2_with (first
    | (go_at_call 95; refine (next_cons B v s ss _ hv hs).mono ?_; rintro e w1 ⟨rfl, v1, hu, hq⟩)
    | (go_at_call 154; refine (parse_ok s n _ hz HH.out).mono ?_; rintro e w2 ⟨rfl, hb⟩))
  exact ⟨rfl, rfl, _, hu.below hb⟩

set_option maxRecDepth 100000 in
theorem number_other (B : Nat) {N : Nat} (v : Value) (s : ByteArray) (ss : List ByteArray) (n most : Nat) (w : World) (hG : Glb w) (hB : 8 ≤ B) (hv : Var B w v) (hs : Ws B N w v (s :: ss)) (hz : s.size ≤ 1099511627776) (hm : most ≤ 2147483647)
    (h : Lib.parseUintB 32 s.data.toList = .ok n) (hle : n ≤ most) (hne : ¬ Lib.decDigits n = s.data.toList) : Calls Tryz.prog 96 #[.pointer (some ⟨B, 0, none⟩), .int .i64 most] w (Thr B w 3) := by
  have HH := Lib.hid h
  have hl := parse32_lt h
  have hb := bne_str hne
  clear h hne
  have hle' : decide (most < n) = false := by simp; omega
  go_enter Tryz.func96, Tryz.ntmps96
  go_wp2_with (first
    | (go_at_call 95; refine (next_cons B v s ss _ hv hs).mono ?_; rintro e w1 ⟨rfl, v1, hu, hq⟩)
    | (go_at_call 154; refine (parse_ok s n _ hz HH.out).mono ?_; rintro e w2 ⟨rfl, hb2⟩)
    | (go_at_call 30; refine (formatUint_any n (by omega) _ ((hG.upd hu hB).below hb2 (Nat.le_trans hG.size hu.size))).mono ?_; rintro e w3 ⟨rfl, hb3⟩))
  exact ⟨rfl, rfl, _, (hu.below hb2).below hb3⟩

/-- A number that was read. -/
def RetN (B N : Nat) (w : World) (n : Nat) (rest : List ByteArray) (e : Ending) (w' : World) : Prop := e = .returned (.int .i64 n) ∧ ∃ v', Upd B w w' v' ∧ Ws B N w' v' rest

set_option maxRecDepth 100000 in
theorem number_good (B : Nat) {N : Nat} (v : Value) (s : ByteArray) (ss : List ByteArray) (n most : Nat) (w : World) (hG : Glb w) (hB : 8 ≤ B) (hv : Var B w v) (hs : Ws B N w v (s :: ss)) (hz : s.size ≤ 1099511627776) (hm : most ≤ 2147483647)
    (h : Lib.parseUintB 32 s.data.toList = .ok n) (hle : n ≤ most) (he : Lib.decDigits n = s.data.toList) : Calls Tryz.prog 96 #[.pointer (some ⟨B, 0, none⟩), .int .i64 most] w (RetN B N w n ss) := by
  have HH := Lib.hid h
  have hl := parse32_lt h
  have hb := beq_str he
  clear h he
  have hle' : decide (most < n) = false := by simp; omega
  go_enter Tryz.func96, Tryz.ntmps96
  go_wp2_with (first
    | (go_at_call 95; refine (next_cons B v s ss _ hv hs).mono ?_; rintro e w1 ⟨rfl, v1, hu, hq⟩)
    | (go_at_call 154; refine (parse_ok s n _ hz HH.out).mono ?_; rintro e w2 ⟨rfl, hb2⟩)
    | (go_at_call 30; refine (formatUint_any n (by omega) _ ((hG.upd hu hB).below hb2 (Nat.le_trans hG.size hu.size))).mono ?_; rintro e w3 ⟨rfl, hb3⟩))
  go_ret
  exact ⟨rfl, _, (hu.below hb2).below hb3, (hq.below hb2).below hb3⟩

theorem number_yes (B : Nat) {N : Nat} (v : Value) (s : ByteArray) (ss : List ByteArray) (n most : Nat) (w : World) (hG : Glb w) (hB : 8 ≤ B) (hv : Var B w v) (hs : Ws B N w v (s :: ss)) (hz : s.size ≤ 1099511627776) (hm : most ≤ 2147483647)
    (h : number most s.data.toList = some n) : Calls Tryz.prog 96 #[.pointer (some ⟨B, 0, none⟩), .int .i64 most] w (RetN B N w n ss) := by
  unfold number at h
  split at h
  · rename_i hk
    split at h
    · rename_i hc
      cases h
      exact number_good B v s ss _ most w hG hB hv hs hz hm hk hc.1 hc.2
    · cases h
  · cases h
theorem number_no (B : Nat) {N : Nat} (v : Value) (s : ByteArray) (ss : List ByteArray) (most : Nat) (w : World) (hG : Glb w) (hB : 8 ≤ B) (hv : Var B w v) (hs : Ws B N w v (s :: ss)) (hz : s.size ≤ 1099511627776) (hm : most ≤ 2147483647)
    (h : number most s.data.toList = none) : Calls Tryz.prog 96 #[.pointer (some ⟨B, 0, none⟩), .int .i64 most] w (Thr B w 3) := by
  by_cases hk : ∃ k, Lib.parseUintB 32 s.data.toList = .ok k
  · obtain ⟨k, hk⟩ := hk
    unfold number at h
    rw [hk] at h
    by_cases hle : k ≤ most
    · by_cases he : Lib.decDigits k = s.data.toList
      · simp [hle, he] at h
      · exact number_other B v s ss k most w hG hB hv hs hz hm hk hle he
    · exact number_great B v s ss k most w hv hs hz hm hk (by omega)
  · exact number_bad B v s ss most w hG hB hv hs hz (fun n hn => hk ⟨n, hn⟩)

/-- The words as lists of bytes. -/
abbrev lst (ss : List ByteArray) : List (List UInt8) := ss.map fun s => s.data.toList
/-- All words are short. -/
def Short (ss : List ByteArray) : Prop := ∀ s ∈ ss, s.size ≤ 1099511627776
theorem Short.head {s : ByteArray} {ss : List ByteArray} (h : Short (s :: ss)) : s.size ≤ 1099511627776 := h s (List.mem_cons_self ..)
theorem Short.tail {s : ByteArray} {ss : List ByteArray} (h : Short (s :: ss)) : Short ss := fun t ht => h t (List.mem_cons_of_mem _ ht)

/-- How 'number' ends, at any words. -/
def NumP (B N : Nat) (w : World) (most : Nat) (ss : List ByteArray) (e : Ending) (w' : World) : Prop :=
  (∃ n rest, num most (lst ss) = some (n, lst rest) ∧ Short rest ∧ RetN B N w n rest e w') ∨ (num most (lst ss) = none ∧ Thr B w 3 e w')
theorem number_any (B : Nat) {N : Nat} (v : Value) (ss : List ByteArray) (m : Int) (most : Nat) (hmm : m = most) (w : World) (hG : Glb w) (hB : 8 ≤ B) (hv : Var B w v) (hs : Ws B N w v ss) (hz : Short ss) (hm : most ≤ 2147483647) :
    Calls Tryz.prog 96 #[.pointer (some ⟨B, 0, none⟩), .int .i64 m] w (NumP B N w most ss) := by
  subst hmm
  cases ss with
  | nil => exact (number_nil B v most w hv hs).mono fun e w' h => .inr ⟨rfl, h⟩
  | cons s r =>
    cases hn : number most s.data.toList with
    | none => exact (number_no B v s r most w hG hB hv hs hz.head hm hn).mono fun e w' h => .inr ⟨by simp [num, hn], h⟩
    | some n => exact (number_yes B v s r n most w hG hB hv hs hz.head hm hn).mono fun e w' h => .inl ⟨n, r, by simp [num, hn], hz.tail, h⟩
/-- How 'text' ends, at any words. -/
def TxtP (B N : Nat) (w : World) (ss : List ByteArray) (e : Ending) (w' : World) : Prop :=
  (∃ xs rest, txt (lst ss) = some (xs, lst rest) ∧ Short rest ∧ RetB B N w xs rest e w') ∨ (txt (lst ss) = none ∧ Thr B w 3 e w')
theorem text_any (B : Nat) {N : Nat} (v : Value) (ss : List ByteArray) (w : World) (hv : Var B w v) (hs : Ws B N w v ss) (hz : Short ss) :
    Calls Tryz.prog 97 #[.pointer (some ⟨B, 0, none⟩)] w (TxtP B N w ss) := by
  cases ss with
  | nil => exact (text_nil B v w hv hs).mono fun e w' h => .inr ⟨rfl, h⟩
  | cons s r =>
    cases hn : unhex s.data.toList with
    | none => exact (text_no B v s r w hv hs hz.head hn).mono fun e w' h => .inr ⟨by simp [txt, hn], h⟩
    | some xs => exact (text_yes B v s r xs w hv hs hz.head hn).mono fun e w' h => .inl ⟨xs, r, by simp [txt, hn], hz.tail, h⟩

set_option maxRecDepth 100000 in
/-- The closure 'num' of 'act'. -/
theorem act1_any (B q : Nat) {N : Nat} (v : Value) (ss : List ByteArray) (w : World) (hc : w.cell? ⟨q, 0, none⟩ = some (.pointer (some ⟨B, 0, none⟩))) (hG : Glb w) (hB : 8 ≤ B) (hv : Var B w v) (hs : Ws B N w v ss) (hz : Short ss) :
    Calls Tryz.prog 156 #[.pointer (some ⟨q, 0, none⟩)] w (NumP B N w 2147483647 ss) := by
  go_enter Tryz.func156, Tryz.ntmps156
  go_wp2_with (go_at_call 96; refine (number_any B v ss _ 2147483647 rfl _ hG hB hv hs hz (Nat.le_refl _)).mono ?_; rintro e w1 (⟨n, rest, hn, hz1, rfl, v1, hu, hq⟩ | ⟨hn, rfl, v1, hu⟩))
  · go_ret
    exact .inl ⟨n, rest, hn, hz1, rfl, v1, hu, hq⟩
  · exact ⟨rfl, .inr ⟨hn, rfl, v1, hu⟩⟩
end Go.Proofs.YtccnmbfigpjkaaaGreatDoor
