/-
  DERIVED. The line of an act, on lists of bytes; the line of what a line tells is that line. Plain functions; no program in sight.
-/
import Derived.Test.YtkiikpojeogicaaDoorRe
import Derived.Test.YtkiikpojeogicaaDoorWr
import Derived.Lib.Join
import Derived.Lib.ItoaLen
import Derived.Lib.Bytes
namespace Go.Proofs.YtkiikpojeogicaaDoor
namespace Scr

/-- The word of a kind. -/
def kindName (k : Int) : List UInt8 :=
  if k = 1 then wBuild else if k = 2 then wFeed else if k = 3 then wBegin else if k = 4 then wCommit else if k = 5 then wCancel else if k = 6 then wFuse
  else if k = 7 then wFall else if k = 8 then wSpoil else if k = 9 then wImage else if k = 10 then wStatus else []
/-- The words behind it. -/
def lineRest (a : ActD) : List (List UInt8) :=
  if a.kind = 1 then [Lib.itoa a.mode, Lib.decDigits a.version.toNat, hexOf a.data] else if a.kind = 2 then [Lib.itoa a.p, Lib.itoa a.n]
  else if a.kind = 8 then [Lib.itoa a.p, Lib.itoa a.n, Lib.itoa a.mode] else if a.kind = 6 then [Lib.itoa a.n] else if a.kind = 7 then [hexOf a.data] else []
/-- The text of an act. -/
def lineTxt (a : ActD) : List UInt8 := Lib.join (kindName a.kind :: lineRest a) [32]

theorem hexc_all : ∀ n : Fin 256, (match hexv (UInt8.ofNat n.val) with | some x => hexc x == UInt8.ofNat n.val | none => true) = true := by decide +kernel
theorem hexc_hexv {c : UInt8} {x : Nat} (h : hexv c = some x) : hexc x = c := by
  have e := hexc_all ⟨c.toNat, by have := c.toNat_lt; omega⟩
  simpa [h] using e
theorem hexs_pairs : ∀ {s : List UInt8} {xs : List Int}, pairs s = some xs → hexs xs = s
  | [], xs, h => by simp [pairs] at h; subst h; rfl
  | [_], xs, h => by simp [pairs] at h
  | a :: b :: r, xs, h => by
    unfold pairs at h
    cases ha : hexv a with
    | none => simp [ha] at h
    | some p =>
      cases hb : hexv b with
      | none => simp [ha, hb] at h
      | some q =>
        cases hr : pairs r with
        | none => simp [ha, hb, hr] at h
        | some t =>
          simp only [ha, hb, hr, Option.some.injEq] at h
          subst h
          have h1 := hexv_lt ha
          have h2 := hexv_lt hb
          have e1 : (((16 * p + q : Nat) : Int)).toNat / 16 = p := by omega
          have e2 : (((16 * p + q : Nat) : Int)).toNat % 16 = q := by omega
          show [hexc (_ / 16), hexc (_ % 16)] ++ hexs t = _
          rw [e1, e2, hexc_hexv ha, hexc_hexv hb, hexs_pairs hr]
          rfl
theorem hexOf_unhex {s : List UInt8} {xs : List Int} (h : unhex s = some xs) : hexOf xs = s := by
  unfold unhex at h
  split at h
  · rename_i hs; cases h; subst hs; rfl
  · split at h
    · cases h
    · rename_i hs
      have hl := pairs_length h
      have hne : xs ≠ [] := by
        intro e; subst e
        simp at hl
        exact hs hl
      rw [hexOf, if_neg hne, hexs_pairs h]
theorem dec_number {most n : Nat} {s : List UInt8} (h : number most s = some n) : Lib.decDigits n = s := by
  unfold number at h
  split at h
  · split at h
    · rename_i e; cases h; exact e.2
    · cases h
  · cases h
theorem itoa_nat (n : Nat) : Lib.itoa (n : Int) = Lib.decDigits n := by
  unfold Lib.itoa
  rw [if_neg (by omega), Int.toNat_natCast]
theorem takeN_words {α : Type} {m : Nat} {r : List (List UInt8)} {f : Nat → List (List UInt8) → Out α} {a : α} {t : List (List UInt8)} (h : takeN m r f = .ok a t) : ∃ n q, n ≤ m ∧ r = Lib.decDigits n :: q ∧ f n q = .ok a t := by
  unfold takeN at h
  cases r with
  | nil => cases h
  | cons s q =>
    simp only [num] at h
    cases hn : number m s with
    | none => rw [hn] at h; cases h
    | some n => rw [hn] at h; exact ⟨n, q, number_le hn, by rw [dec_number hn], h⟩
theorem takeT_words {α : Type} {r : List (List UInt8)} {f : List Int → List (List UInt8) → Out α} {a : α} {t : List (List UInt8)} (h : takeT r f = .ok a t) : ∃ xs q, (∀ x ∈ xs, 0 ≤ x ∧ x < 256) ∧ r = hexOf xs :: q ∧ f xs q = .ok a t := by
  unfold takeT at h
  cases r with
  | nil => cases h
  | cons s q =>
    simp only [txt] at h
    cases hn : unhex s with
    | none => rw [hn] at h; cases h
    | some n => rw [hn] at h; exact ⟨n, q, unhex_bound hn, by rw [hexOf_unhex hn], h⟩
/-- An act that a program's act can be. -/
structure ActOk (a : ActD) : Prop where
  kind0 : 0 ≤ a.kind
  kind1 : a.kind < 256
  mode0 : 0 ≤ a.mode
  mode1 : a.mode < 256
  p0 : -9223372036854775808 ≤ a.p
  p1 : a.p ≤ 9223372036854775807
  n0 : -9223372036854775808 ≤ a.n
  n1 : a.n ≤ 9223372036854775807
  ver0 : 0 ≤ a.version
  ver1 : a.version < 18446744073709551616
  data : ∀ x ∈ a.data, 0 ≤ x ∧ x < 256
theorem bare_ok (k : Int) (h0 : 0 ≤ k) (h1 : k < 256) : ActOk ⟨k, 0, 0, 0, 0, []⟩ := ⟨h0, h1, by simp, by simp, by simp, by simp, by simp, by simp, by simp, by simp, by simp⟩
/-- The words of what words tell; and its bounds. -/
theorem words_of_act {ws : List (List UInt8)} {a : ActD} (h : actOf ws = .ok a []) : kindName a.kind :: lineRest a = ws ∧ (a.kind = 1 ∨ a.kind = 7 ∨ a.data = []) ∧ ActOk a := by
  cases ws with
  | nil => cases h
  | cons k r =>
    rw [actOf, fields] at h
    split at h
    · rename_i hk
      obtain ⟨m, q1, hm, rfl, g1⟩ := takeN_words h
      obtain ⟨v, q2, hv, rfl, g2⟩ := takeN_words g1
      obtain ⟨d, q3, hd, rfl, g3⟩ := takeT_words g2
      cases g3
      exact ⟨by simp [kindName, lineRest, hk, itoa_nat], by simp, ⟨by simp, by simp, by simp, by simp only; omega, by simp, by simp, by simp, by simp, by simp, by simp only; omega, hd⟩⟩
    split at h
    · rename_i hk
      obtain ⟨m, q1, hm, rfl, g1⟩ := takeN_words h
      obtain ⟨v, q2, hv, rfl, g2⟩ := takeN_words g1
      cases g2
      exact ⟨by simp [kindName, lineRest, hk, itoa_nat], by simp, ⟨by simp, by simp, by simp, by simp, by simp only; omega, by simp only; omega, by simp only; omega, by simp only; omega, by simp, by simp, by simp⟩⟩
    split at h
    · rename_i hk
      obtain ⟨m, q1, hm, rfl, g1⟩ := takeN_words h
      obtain ⟨v, q2, hv, rfl, g2⟩ := takeN_words g1
      obtain ⟨d, q3, hd, rfl, g3⟩ := takeN_words g2
      cases g3
      exact ⟨by simp [kindName, lineRest, hk, itoa_nat], by simp, ⟨by simp, by simp, by simp, by simp only; omega, by simp only; omega, by simp only; omega, by simp only; omega, by simp only; omega, by simp, by simp, by simp⟩⟩
    split at h
    · rename_i hk
      obtain ⟨m, q1, hm, rfl, g1⟩ := takeN_words h
      cases g1
      exact ⟨by simp [kindName, lineRest, hk, itoa_nat], by simp, ⟨by simp, by simp, by simp, by simp, by simp, by simp, by simp only; omega, by simp only; omega, by simp, by simp, by simp⟩⟩
    split at h
    · rename_i hk
      obtain ⟨m, q1, hm, rfl, g1⟩ := takeT_words h
      cases g1
      exact ⟨by simp [kindName, lineRest, hk], by simp, ⟨by simp, by simp, by simp, by simp, by simp, by simp, by simp, by simp, by simp, by simp, hm⟩⟩
    iterate 5
      split at h
      · rename_i hk
        cases h
        exact ⟨by simp [kindName, lineRest, hk], by simp, bare_ok _ (by decide) (by decide)⟩
    cases h
theorem join_spl : ∀ s : List UInt8, Lib.join (spl s) [32] = s
  | [] => by simp [spl, Lib.join_one]
  | c :: r => by
    have ih := join_spl r
    unfold spl
    cases hk : spl r with
    | nil => exact absurd hk (spl_ne r)
    | cons k t =>
      rw [hk, Lib.join_cons] at ih
      split
      · rename_i hc
        subst hc
        rw [Lib.join_cons, ← ih]
        simp [Lib.joinTail]
      · rw [Lib.join_cons, ← ih]
        rfl
/-- The line of what a line tells. -/
theorem lineTxt_of {s : List UInt8} {a : ActD} (h : actOf (wordsOf s) = .ok a []) : lineTxt a = s := by
  unfold lineTxt
  rw [(words_of_act h).1, wordsOf_spl, join_spl]
theorem takeN_bad {α : Type} {m : Nat} {r : List (List UInt8)} {f : Nat → List (List UInt8) → Out α} {e : Int} (h : takeN m r f = .bad e) (hf : ∀ n q, f n q = .bad e → e ≠ 0) : e ≠ 0 := by
  unfold takeN at h
  split at h
  · exact hf _ _ h
  · cases h; decide
theorem takeT_bad {α : Type} {r : List (List UInt8)} {f : List Int → List (List UInt8) → Out α} {e : Int} (h : takeT r f = .bad e) (hf : ∀ n q, f n q = .bad e → e ≠ 0) : e ≠ 0 := by
  unfold takeT at h
  split at h
  · exact hf _ _ h
  · cases h; decide
theorem actOf_bad {ws : List (List UInt8)} {e : Int} (h : actOf ws = .bad e) : e ≠ 0 := by
  cases ws with
  | nil => cases h; decide
  | cons k r =>
    rw [actOf, fields] at h
    split at h
    · exact takeN_bad h fun _ _ h => takeN_bad h fun _ _ h => takeT_bad h fun _ _ h => by cases h
    split at h
    · exact takeN_bad h fun _ _ h => takeN_bad h fun _ _ h => by cases h
    split at h
    · exact takeN_bad h fun _ _ h => takeN_bad h fun _ _ h => takeN_bad h fun _ _ h => by cases h
    split at h
    · exact takeN_bad h fun _ _ h => by cases h
    split at h
    · exact takeT_bad h fun _ _ h => by cases h
    iterate 5
      split at h
      · cases h
    cases h; decide
theorem read_ok_act {s : List UInt8} {a : ActD} (h : readOf s = (a, 0)) : actOf (wordsOf s) = .ok a [] := by
  unfold readOf at h
  split at h
  · rename_i e he
    injection h with _ h2
    exact absurd h2 (actOf_bad he)
  · rename_i b hb
    injection h with h1 _
    rw [hb, h1]
  · injection h with _ h2
    cases h2

theorem dec_len (u : Nat) (h : u < 18446744073709551616) : (Lib.decDigits u).length ≤ 20 := by rw [Lib.decDigits_length]; exact Lib.nDigits_le20 u h
theorem itoa_len (n : Int) (h0 : -9223372036854775808 ≤ n) (h1 : n ≤ 9223372036854775807) : (Lib.itoa n).length ≤ 21 := by
  unfold Lib.itoa
  split
  · have := dec_len n.natAbs (by omega)
    simp; omega
  · have := dec_len n.toNat (by omega)
    omega
theorem hexOf_len (xs : List Int) : (hexOf xs).length ≤ 2 * xs.length + 1 := by
  unfold hexOf
  split
  · simp
  · rw [hexs_length]; omega
theorem kindName_len (k : Int) : (kindName k).length ≤ 6 := by
  unfold kindName
  repeat' split
  all_goals decide
/-- The line of an act is short. -/
theorem lineTxt_le {a : ActD} (h : ActOk a) (hd : a.data.length ≤ 2000) : (lineTxt a).length ≤ 5000 := by
  unfold lineTxt
  rw [Lib.join_length]
  have h1 := kindName_len a.kind
  have h2 := itoa_len a.mode (by have := h.mode0; omega) (by have := h.mode1; omega)
  have h3 := itoa_len a.p h.p0 h.p1
  have h4 := itoa_len a.n h.n0 h.n1
  have h5 := dec_len a.version.toNat (by have := h.ver0; have := h.ver1; omega)
  have h6 := hexOf_len a.data
  unfold lineRest
  repeat' split
  all_goals (simp [Lib.lens]; omega)
/-- The bytes of an act are no more than its line's. -/
theorem data_le {s : List UInt8} {a : ActD} (h : actOf (wordsOf s) = .ok a []) : a.data.length ≤ s.length := by
  have hw := (words_of_act h).1
  have hs := lineTxt_of h
  by_cases hn : a.data = []
  · rw [hn]; simp
  have hx : (hexOf a.data).length = 2 * a.data.length := by rw [hexOf, if_neg hn, hexs_length]
  rw [← hs]
  unfold lineTxt
  rw [Lib.join_length]
  rcases (words_of_act h).2.1 with h1 | h7 | h0
  · unfold lineRest
    rw [if_pos h1]
    simp [Lib.lens]; omega
  · unfold lineRest
    rw [h7]
    simp [Lib.lens]; omega
  · exact absurd h0 hn
/-- Equal acts. -/
theorem bytes_inj : ∀ {xs ys : List Int}, (∀ x ∈ xs, 0 ≤ x ∧ x < 256) → (∀ y ∈ ys, 0 ≤ y ∧ y < 256) → Lib.bytesOf xs = Lib.bytesOf ys → xs = ys
  | [], [], _, _, _ => rfl
  | [], _ :: _, _, _, h => by simp [Lib.bytesOf] at h
  | _ :: _, [], _, _, h => by simp [Lib.bytesOf] at h
  | x :: xs, y :: ys, hx, hy, h => by
    simp only [Lib.bytesOf, List.map_cons, List.cons.injEq] at h
    have h1 := hx x (by simp)
    have h2 := hy y (by simp)
    have e : x = y := by
      have := congrArg UInt8.toNat h.1
      simp only [UInt8.toNat_ofNat'] at this
      omega
    rw [e, bytes_inj (fun z hz => hx z (by simp [hz])) (fun z hz => hy z (by simp [hz])) h.2]
end Scr
end Go.Proofs.YtkiikpojeogicaaDoor
