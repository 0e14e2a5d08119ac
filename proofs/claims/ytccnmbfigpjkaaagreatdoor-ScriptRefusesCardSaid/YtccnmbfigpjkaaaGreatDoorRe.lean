/-
  DERIVED. The reference's words, digits, bytes and numbers, as the printed functions spell them, are the plain ones.
  DERIVED. The reference's digits, bytes and numbers are the plain ones.
  DERIVED. The reference's numbers, fields and acts are the plain ones.
  DERIVED. The reference's fields and acts are the plain ones.
  DERIVED. The reference's acts are the plain ones.
-/
import Derived.Test.YtccnmbfigpjkaaaGreatDoorR5
import Derived.Test.YtccnmbfigpjkaaaGreatDoorPl
import Derived.Lib.SplitLaws
import Derived.Lib.IndexBytes
namespace Go.Proofs.YtccnmbfigpjkaaaGreatDoor
open Go.RowKit Go.Proofs.YtccnmbfigpjkaaaGreatDoorW.PrintWords Go.Proofs.YtccnmbfigpjkaaaGreatDoor.PScriptRefuses
open Scr

namespace Scr
/-- The words, byte by byte. -/
def spl : List UInt8 → List (List UInt8)
  | [] => [[]]
  | c :: r => if c = 32 then [] :: spl r else match spl r with
    | [] => [[c]]
    | h :: t => (c :: h) :: t
theorem spl_ne : ∀ s, spl s ≠ []
  | [] => by simp [spl]
  | c :: r => by
    unfold spl
    split
    · simp
    · split <;> simp
theorem splitK_cons (k : Nat) (c : UInt8) (r : List UInt8) (hc : ¬ c = 32) : Lib.splitK [32] 0 k (c :: r) = match Lib.splitK [32] 0 k r with
    | [] => [[c]]
    | h :: t => (c :: h) :: t := by
  cases k with
  | zero => rfl
  | succ k =>
    unfold Lib.splitK
    rw [Lib.index_one, Lib.index_one]
    have hi : Lib.indexByte (c :: r) 32 = if Lib.indexByte r 32 == -1 then -1 else Lib.indexByte r 32 + 1 := by
      conv => lhs; unfold Lib.indexByte
      rw [if_neg (by simpa using hc)]
    rw [hi]
    have hge := Lib.indexByte_ge r 32
    by_cases h : Lib.indexByte r 32 = -1
    · rw [h]; rfl
    · obtain ⟨i, hi'⟩ : ∃ i : Nat, Lib.indexByte r 32 = i := ⟨(Lib.indexByte r 32).toNat, by omega⟩
      rw [hi']
      have e1 : ((i : Int) == -1) = false := by simp
      have e2 : (((i : Int) + 1) == -1) = false := by simpa using (by omega : ¬ (i : Int) + 1 = -1)
      simp only [e1, e2, Bool.false_eq_true, if_false]
      have e3 : ((i : Int) + 1).toNat = i + 1 := by omega
      rw [e3, Int.toNat_natCast]
      simp
theorem split_spl : ∀ s, Lib.split s [32] = spl s
  | [] => by
    unfold Lib.split
    rw [Lib.count_one]
    rfl
  | c :: r => by
    have ih := split_spl r
    unfold Lib.split at ih ⊢
    unfold spl
    by_cases hc : c = 32
    · subst hc
      rw [if_pos rfl, Lib.count_cons_eq, Nat.add_comm, ← ih]
      conv => lhs; unfold Lib.splitK
      rw [Lib.index_one]
      have : Lib.indexByte (32 :: r) 32 = 0 := by unfold Lib.indexByte; rfl
      rw [this]
      rfl
    · rw [if_neg hc, Lib.count_cons_ne _ _ _ hc, splitK_cons _ _ _ hc, ih]
theorem wordsOf_spl (s : List UInt8) : wordsOf s = spl s := split_spl s
/-- A piece ahead of the first word. -/
def pre1 (p : List UInt8) : List (List UInt8) → List (List UInt8)
  | [] => [p]
  | h :: t => (p ++ h) :: t
end Scr

theorem btn_at (s : ByteArray) (i : Nat) (h : i < s.data.toList.length) : bt s (i : Int) = ((s.data.toList[i]'h).toNat : Int) := by
  have h' : i < s.size := by simpa using h
  have := bt_at s (i : Int) (by simpa using h')
  rw [← this]
  rfl
theorem ne_int {c d : UInt8} (h : ¬ c = d) : ¬ ((c.toNat : Int) = (d.toNat : Int)) := fun e => h (UInt8.toNat_inj.1 (by exact_mod_cast e))
theorem drop_cons {s : List UInt8} {i : Nat} (h : i < s.length) : s.drop i = s[i] :: s.drop (i + 1) := List.drop_eq_getElem_cons h
theorem wrap_succ (i : Nat) (h : i ≤ 100000000) : wrap64 ((i : Int) + 1) = ((i + 1 : Nat) : Int) := by unfold wrap64; omega
theorem extract_list (s : ByteArray) (a b : Nat) : (s.extract a b).data.toList = (s.data.toList.take b).drop a := by
  simp [List.drop_take]

theorem words_go (s : ByteArray) (hs : s.size ≤ 100000) : ∀ (n i last : Nat) (out : List ByteArray) (K : Nat), i + n = s.size → last ≤ i → out.length ≤ i → n + 2 ≤ K →
    ∃ ws, drogherref30_Words.l0 K s out (last : Int) (i : Int) = some (out ++ ws) ∧ ws.map (fun b => b.data.toList) = pre1 ((s.data.toList.take i).drop last) (spl (s.data.toList.drop i))
  | _, _, _, _, 0, _, _, _, h => by omega
  | _, _, _, _, 1, _, _, _, h => by omega
  | 0, i, last, out, K + 2, hi, hl, ho, _ => by
    have hi' : i = s.size := by omega
    refine ⟨[s.extract last i], ?_, ?_⟩
    · rw [drogherref30_Words.l0, if_pos (by omega), if_pos (by omega), if_pos (by omega), if_pos (by omega), if_pos (by omega), wrap_succ i (by omega), drogherref30_Words.l0, if_neg (by omega)]
      simp
    · have : s.data.toList.drop i = [] := by rw [List.drop_eq_nil_iff]; simp; omega
      rw [this, List.map_cons, List.map_nil, extract_list]
      simp [pre1, spl]
  | n + 1, i, last, out, K + 2, hi, hl, ho, hK => by
    have hlt : i < s.data.toList.length := by simp; omega
    have hx := drop_cons hlt
    have hb := btn_at s i hlt
    rw [drogherref30_Words.l0, if_pos (by omega), if_neg (by omega), if_pos (by omega), if_pos (by omega), hb, wrap_succ i (by omega)]
    by_cases hc : s.data.toList[i] = 32
    · rw [if_pos (by rw [hc]; rfl), if_pos (by omega), if_pos (by omega), if_pos (by omega)]
      obtain ⟨ws, h1, h2⟩ := words_go s hs n (i + 1) (i + 1) (out ++ [s.extract last i]) (K + 1) (by omega) (by omega) (by simp; omega) (by omega)
      refine ⟨s.extract last i :: ws, ?_, ?_⟩
      · simpa using h1
      · rw [hx, List.map_cons, extract_list, h2]
        conv => rhs; rw [spl, if_pos hc]
        have he : (s.data.toList.take (i + 1)).drop (i + 1) = [] := List.drop_of_length_le (by rw [List.length_take]; omega)
        rw [he]
        have hne := spl_ne (s.data.toList.drop (i + 1))
        cases hq : spl (s.data.toList.drop (i + 1)) with
        | nil => exact absurd hq hne
        | cons p q => simp [pre1]
    · rw [if_neg (show ¬ ((s.data.toList[i].toNat : Int) = 32) from ne_int hc)]
      obtain ⟨ws, h1, h2⟩ := words_go s hs n (i + 1) last out (K + 1) (by omega) (by omega) (by omega) (by omega)
      refine ⟨ws, h1, ?_⟩
      rw [h2, hx]
      conv => rhs; rw [spl, if_neg hc]
      have hne := spl_ne (s.data.toList.drop (i + 1))
      have htk : (s.data.toList.take (i + 1)).drop last = (s.data.toList.take i).drop last ++ [s.data.toList[i]] := by
        rw [← List.take_append_getElem hlt, List.drop_append_of_le_length (by rw [List.length_take]; omega)]
      rw [htk]
      cases hq : spl (s.data.toList.drop (i + 1)) with
      | nil => exact absurd hq hne
      | cons p q => simp [pre1]
theorem ref_words (s : ByteArray) (hs : s.size ≤ 100000) (K : Nat) (hK : s.size + 2 ≤ K) : ∃ ws, drogherref30_Words.f K s = some ws ∧ ws.map (fun b => b.data.toList) = wordsOf s.data.toList := by
  obtain ⟨ws, h1, h2⟩ := words_go s hs s.size 0 0 [] K (by omega) (Nat.le_refl _) (Nat.le_refl _) hK
  refine ⟨ws, by simpa [drogherref30_Words.f] using h1, ?_⟩
  rw [h2, wordsOf_spl]
  have hne := spl_ne s.data.toList
  cases hq : spl s.data.toList with
  | nil => exact absurd hq hne
  | cons p q => simp [pre1, hq]
namespace Scr
theorem spl_length : ∀ (s : List UInt8), ∀ x ∈ spl s, x.length ≤ s.length
  | [], x, hx => by simp [spl] at hx; simp [hx]
  | c :: r, x, hx => by
    have ih := spl_length r
    unfold spl at hx
    split at hx
    · rcases List.mem_cons.1 hx with rfl | h
      · simp
      · have := ih x h; simp; omega
    · split at hx
      · simp at hx; simp [hx]
      · rename_i h t hq
        rw [hq] at ih
        rcases List.mem_cons.1 hx with rfl | h'
        · have := ih h (by simp); simp; omega
        · have := ih x (by simp [h']); simp; omega
end Scr
end Go.Proofs.YtccnmbfigpjkaaaGreatDoor

namespace Go.Proofs.YtccnmbfigpjkaaaGreatDoor
open Go.RowKit Go.Proofs.YtccnmbfigpjkaaaGreatDoorW.PrintWords Go.Proofs.YtccnmbfigpjkaaaGreatDoor.PScriptRefuses
open Scr

def valueOf (c : UInt8) : Int × Bool := match hexv c with
  | some x => ((x : Int), true)
  | none => (0, false)
theorem value_all : ∀ n : Fin 256, drogherref30_value.f 1 (n.val : Int) = some (valueOf (UInt8.ofNat n.val)) := by decide +kernel
theorem ref_value (k : Nat) (c : UInt8) : drogherref30_value.f (k + 1) (c.toNat : Int) = some (valueOf c) := by
  have h := value_all ⟨c.toNat, by have := c.toNat_lt; omega⟩
  have e : drogherref30_value.f (k + 1) (c.toNat : Int) = drogherref30_value.f 1 (c.toNat : Int) := rfl
  rw [e]
  simpa using h
theorem valueOf_yes {c : UInt8} {x : Nat} (h : hexv c = some x) : valueOf c = ((x : Int), true) := by unfold valueOf; rw [h]
theorem valueOf_no {c : UInt8} (h : hexv c = none) : valueOf c = (0, false) := by unfold valueOf; rw [h]

def unhexR : Option (List Int) → List Int × Bool
  | some xs => (xs, true)
  | none => ([], false)

theorem unhex_go (s : ByteArray) (hs : s.size ≤ 100000) : ∀ (n i : Nat) (out : List Int) (K : Nat), i + 2 * n = s.size → out.length ≤ i → n + 2 ≤ K →
    drogherref30_Unhex.l0 K s out (i : Int) = some (unhexR ((pairs (s.data.toList.drop i)).map (out ++ ·)))
  | _, _, _, 0, _, _, h => by omega
  | 0, i, out, K + 1, hi, ho, _ => by
    have : s.data.toList.drop i = [] := by rw [List.drop_eq_nil_iff]; simp; omega
    rw [drogherref30_Unhex.l0, if_neg (by omega), this]
    simp [pairs, unhexR]
  | n + 1, i, out, K + 1, hi, ho, hK => by
    have hlt : i < s.data.toList.length := by simp; omega
    have hlt2 : i + 1 < s.data.toList.length := by simp; omega
    have hx := drop_cons hlt
    have hy := drop_cons hlt2
    have w1 := wrap_succ i (by omega)
    have w2 : wrap64 ((i : Int) + 2) = ((i + 2 : Nat) : Int) := by unfold wrap64; omega
    have b1 := btn_at s i hlt
    have b2 := btn_at s (i + 1) hlt2
    obtain ⟨K', rfl⟩ : ∃ K', K = K' + 1 := ⟨K - 1, by omega⟩
    rw [drogherref30_Unhex.l0, if_pos (by omega), if_pos (by omega), b1, ref_value, Option.bind_some, w1, if_pos (by omega), if_pos (by omega), b2, ref_value, Option.bind_some, w2, hx, hy, pairs]
    cases hA : hexv s.data.toList[i] with
    | none =>
      rw [valueOf_no hA]
      cases hexv s.data.toList[i + 1] <;> simp [unhexR]
    | some a =>
      cases hB : hexv s.data.toList[i + 1] with
      | none => rw [valueOf_yes hA, valueOf_no hB]; simp [unhexR]
      | some b =>
        have h1 := hexv_lt hA
        have h2 := hexv_lt hB
        rw [valueOf_yes hA, valueOf_yes hB]
        simp only [if_true]
        rw [if_pos (by omega), unhex_go s hs n (i + 2) _ (K' + 1) (by omega) (by simp; omega) (by omega)]
        have e : ((16 * (a : Int) + (b : Int)) % 256) = ((16 * a + b : Nat) : Int) := by omega
        rw [e, show i + 1 + 1 = i + 2 from rfl]
        cases pairs (s.data.toList.drop (i + 2)) with
        | none => rfl
        | some xs => simp [unhexR]
theorem ref_unhex (s : ByteArray) (hs : s.size ≤ 100000) (K : Nat) (hK : s.size + 3 ≤ K) : drogherref30_Unhex.f K s = some (unhexR (unhex s.data.toList)) := by
  obtain ⟨K', rfl⟩ : ∃ K', K = K' + 1 := ⟨K - 1, by omega⟩
  rw [drogherref30_Unhex.f, Option.bind_some, ByteArray.toList_eq, unhex]
  by_cases h1 : s.data.toList = [46]
  · rw [if_pos h1, if_pos h1]; rfl
  · rw [if_neg h1, if_neg h1]
    by_cases h2 : s.data.toList = []
    · rw [if_pos h2, if_pos h2, drogherref30_Unhex.j0, if_pos rfl]; rfl
    · rw [if_neg h2, if_neg h2, drogherref30_Unhex.j0]
      by_cases h3 : s.size % 2 = 1
      · have : ((s.size : Int) % 2 == 1) = true := by simp; omega
        rw [if_pos this, pairs_odd (by simpa using h3)]; rfl
      · have : ((s.size : Int) % 2 == 1) = false := by simp; omega
        rw [if_neg (by rw [this]; decide), show (0 : Int) = ((0 : Nat) : Int) from rfl, unhex_go s hs (s.size / 2) 0 [] K' (by omega) (Nat.le_refl _) (by omega)]
        simp

/-! ### Numbers -/
namespace Scr
/-- The value of digits behind what the digits before spell. -/
def dig : Nat → List UInt8 → Option Nat
  | acc, [] => some acc
  | acc, c :: r => if 48 ≤ c.toNat ∧ c.toNat ≤ 57 then dig (acc * 10 + (c.toNat - 48)) r else none
theorem dig_ge : ∀ {acc n : Nat} {s : List UInt8}, dig acc s = some n → acc ≤ n
  | acc, n, [], h => by cases h; exact Nat.le_refl _
  | acc, n, c :: r, h => by
    unfold dig at h
    split at h
    · have := dig_ge h; omega
    · cases h
theorem dig_snoc : ∀ (acc : Nat) (s : List UInt8) (c : UInt8), dig acc (s ++ [c]) = match dig acc s with
    | some m => if 48 ≤ c.toNat ∧ c.toNat ≤ 57 then some (m * 10 + (c.toNat - 48)) else none
    | none => none
  | acc, [], c => by simp [dig]
  | acc, d :: r, c => by
    rw [List.cons_append, dig, dig]
    split
    · exact dig_snoc _ r c
    · rfl
theorem dig_parse (M : Nat) (hM : M < 18446744073709551616) : ∀ (acc : Nat) (s : List UInt8), acc ≤ M → acc < 1844674407370955162 →
    (∀ n, dig acc s = some n → n ≤ M → n < 1844674407370955162 → Lib.parseUintM M acc s = .ok n) ∧ (∀ n, Lib.parseUintM M acc s = .ok n → dig acc s = some n)
  | acc, [], _, _ => ⟨fun n h _ _ => by cases h; rfl, fun n h => by unfold Lib.parseUintM at h; injection h with h; rw [h]; rfl⟩
  | acc, c :: r, h1, h2 => by
    unfold dig Lib.parseUintM
    by_cases hc : 48 ≤ c.toNat ∧ c.toNat ≤ 57
    · rw [if_pos hc, if_pos hc, if_neg (by omega)]
      by_cases hm : M < acc * 10 + (c.toNat - 48)
      · rw [if_pos hm]
        refine ⟨fun n h hn _ => ?_, fun n h => (by cases h)⟩
        have := dig_ge h; omega
      · rw [if_neg hm]
        by_cases hb : acc * 10 + (c.toNat - 48) < 1844674407370955162
        · exact dig_parse M hM _ r (by omega) hb
        · refine ⟨fun n h hn hb' => ?_, fun n h => ?_⟩
          · have := dig_ge h; omega
          · cases r with
            | nil => unfold Lib.parseUintM at h; injection h with h; rw [h]; rfl
            | cons d t =>
              unfold Lib.parseUintM at h
              split at h
              · rw [if_pos (by omega)] at h; cases h
              · cases h
    · rw [if_neg hc, if_neg hc]
      exact ⟨fun n h => (by cases h), fun n h => (by cases h)⟩
theorem head_app {t l : List UInt8} (h : t ≠ []) : (t ++ l).head? = t.head? := by
  cases t with
  | nil => exact absurd rfl h
  | cons a t => rfl
/-- As a number is written: not empty, no zero ahead. -/
def canon (s : List UInt8) : Prop := s ≠ [] ∧ (1 < s.length → s.head? ≠ some 48)
instance (s : List UInt8) : Decidable (canon s) := by unfold canon; infer_instance
theorem canon_dec : ∀ (n : Nat), canon (Lib.decDigits n) ∧ (1 ≤ n → (Lib.decDigits n).head? ≠ some 48) := by
  intro n
  induction n using Nat.strongRecOn with
  | ind n ih =>
    rw [Lib.decDigits]
    by_cases h : n < 10
    · rw [dif_pos h]
      refine ⟨⟨by simp, by simp⟩, fun h1 => ?_⟩
      have : ∀ m : Fin 10, 1 ≤ m.val → [UInt8.ofNat (48 + m.val)].head? ≠ some 48 := by decide
      exact this ⟨n, h⟩ h1
    · rw [dif_neg h]
      obtain ⟨⟨h1, _⟩, h3⟩ := ih (n / 10) (by omega)
      have h4 := h3 (by omega)
      have h5 : ((Lib.decDigits (n / 10)) ++ [UInt8.ofNat (48 + n % 10)]).head? ≠ some 48 := by
        rw [head_app h1]; exact h4
      exact ⟨⟨by simp, fun _ => h5⟩, fun _ => h5⟩
theorem dec_length : ∀ (k n : Nat), n < 10 ^ (k + 1) → (Lib.decDigits n).length ≤ k + 1
  | 0, n, h => by rw [Lib.decDigits, dif_pos (by simpa using h)]; simp
  | k + 1, n, h => by
    rw [Lib.decDigits]
    by_cases h1 : n < 10
    · rw [dif_pos h1]; simp
    · rw [dif_neg h1]
      have := dec_length k (n / 10) (by rw [Nat.pow_succ] at h; omega)
      simp; omega
theorem canon_snoc {t : List UInt8} {c : UInt8} (h : canon (t ++ [c])) (ht : t ≠ []) : canon t ∧ t.head? ≠ some 48 := by
  have h1 : 1 < (t ++ [c]).length := by
    have := List.length_pos_iff.2 ht
    simp; omega
  have h2 := h.2 h1
  rw [head_app ht] at h2
  exact ⟨⟨ht, fun _ => h2⟩, h2⟩
theorem dig_pos {s : List UInt8} {n : Nat} (h : dig 0 s = some n) (hs : s ≠ []) (h0 : s.head? ≠ some 48) : 1 ≤ n := by
  cases s with
  | nil => exact absurd rfl hs
  | cons c r =>
    unfold dig at h
    split at h
    · rename_i hc
      have := dig_ge h
      have : ¬ c.toNat = 48 := fun e => h0 (by rw [List.head?_cons]; congr 1; exact UInt8.toNat_inj.1 e)
      omega
    · cases h
theorem dec_dig : ∀ (k : Nat) (s : List UInt8) (n : Nat), s.length = k → dig 0 s = some n → canon s → Lib.decDigits n = s := by
  intro k
  induction k with
  | zero => intro s n hl _ hc; exact absurd (List.eq_nil_of_length_eq_zero hl) hc.1
  | succ k ih =>
    intro s n hl h hc
    obtain ⟨t, c, rfl⟩ : ∃ t c, s = t ++ [c] := ⟨s.dropLast, s.getLast hc.1, (List.dropLast_concat_getLast hc.1).symm⟩
    rw [dig_snoc] at h
    cases hm : dig 0 t with
    | none => rw [hm] at h; cases h
    | some m =>
      rw [hm] at h
      simp only at h
      by_cases hd : 48 ≤ c.toNat ∧ c.toNat ≤ 57
      · rw [if_pos hd] at h
        injection h with h
        have hcc : UInt8.ofNat (48 + (c.toNat - 48)) = c := by
          rw [show 48 + (c.toNat - 48) = c.toNat from by omega]; simp
        by_cases ht : t = []
        · subst ht
          have : m = 0 := by simp [dig] at hm; exact hm.symm
          subst this
          rw [Lib.decDigits, dif_pos (by omega), ← h]
          simpa using hcc
        · obtain ⟨h1, h2⟩ := canon_snoc hc ht
          have hp := dig_pos hm ht h2
          rw [Lib.decDigits, dif_neg (by omega)]
          have e1 : n / 10 = m := by omega
          have e2 : n % 10 = c.toNat - 48 := by omega
          rw [e1, e2, hcc, ih t m (by simp at hl; omega) hm h1]
      · rw [if_neg hd] at h; cases h

/-- A number of a line, said by its digits. -/
theorem number_dig (most : Nat) (hm : most ≤ 2147483647) (s : List UInt8) : number most s = if canon s ∧ s.length ≤ 10 then (match dig 0 s with
    | some n => if n ≤ most then some n else none
    | none => none) else none := by
  unfold number Lib.parseUintB
  by_cases hc : canon s ∧ s.length ≤ 10
  · rw [if_pos hc, if_neg hc.1.1]
    obtain ⟨h1, h2⟩ := dig_parse (2 ^ 32 - 1) (by decide) 0 s (by decide) (by decide)
    cases hd : dig 0 s with
    | none =>
      split
      · rename_i n hn; have := h2 n hn; rw [hd] at this; cases this
      · rfl
    | some n =>
      by_cases hn : n ≤ most
      · rw [h1 n hd (by omega) (by omega)]
        simp only
        rw [if_pos ⟨hn, dec_dig _ s n rfl hd hc.1⟩, if_pos hn]
      · simp only
        rw [if_neg hn]
        split
        · rename_i m hq
          have := h2 m hq
          rw [hd] at this
          injection this with this
          rw [if_neg (by intro h; omega)]
        · rfl
  · rw [if_neg hc]
    split
    · rename_i n hn
      rw [if_neg]
      rintro ⟨h1, h2⟩
      apply hc
      rw [← h2]
      exact ⟨(canon_dec n).1, dec_length 9 n (by omega)⟩
    · rfl
end Scr
end Go.Proofs.YtccnmbfigpjkaaaGreatDoor

namespace Go.Proofs.YtccnmbfigpjkaaaGreatDoor
open Go.RowKit Go.Proofs.YtccnmbfigpjkaaaGreatDoorW.PrintWords Go.Proofs.YtccnmbfigpjkaaaGreatDoor.PScriptRefuses
open Scr

def digR (most : Int) : Option Nat → Int × Bool
  | some v => ((v : Int), decide ((v : Int) ≤ most))
  | none => (0, false)
theorem pow_step {acc i d : Nat} (ha : acc < 10 ^ i) (hd : d < 10) (hi : i + 1 ≤ 10) : acc * 10 + d < 10 ^ (i + 1) ∧ acc * 10 + d < 10000000000 := by
  have hp : 10 ^ (i + 1) ≤ 10 ^ 10 := Nat.pow_le_pow_right (by decide) hi
  have hq : 10 ^ (i + 1) = 10 ^ i * 10 := Nat.pow_succ ..
  have h10 : (10 : Nat) ^ 10 = 10000000000 := rfl
  rw [h10] at hp
  rw [hq] at hp ⊢
  generalize 10 ^ i = P at ha hp ⊢
  omega
theorem wrap_dig (acc d : Nat) (h1 : 48 ≤ d) (h2 : d ≤ 57) (h3 : acc * 10 + (d - 48) < 10000000000) : wrap64 (wrap64 (10 * (acc : Int)) + ((d : Int) - 48) % 256) = ((acc * 10 + (d - 48) : Nat) : Int) := by
  have e1 : wrap64 (10 * (acc : Int)) = 10 * (acc : Int) := by unfold wrap64; omega
  have e2 : ((d : Int) - 48) % 256 = (d : Int) - 48 := by omega
  rw [e1, e2]
  unfold wrap64
  omega
theorem number_go (s : ByteArray) (most : Int) (hs : s.size ≤ 10) : ∀ (n i acc K : Nat), i + n = s.size → acc < 10 ^ i → n + 1 ≤ K →
    drogherref30_Number.l0 K s most (acc : Int) (i : Int) = some (digR most (dig acc (s.data.toList.drop i)))
  | _, _, _, 0, _, _, h => by omega
  | 0, i, acc, K + 1, hi, ha, _ => by
    have : s.data.toList.drop i = [] := by rw [List.drop_eq_nil_iff]; simp; omega
    rw [drogherref30_Number.l0, if_neg (by omega), this]
    rfl
  | n + 1, i, acc, K + 1, hi, ha, hK => by
    have hlt : i < s.data.toList.length := by simp; omega
    have hx := drop_cons hlt
    have hb := btn_at s i hlt
    rw [drogherref30_Number.l0, if_pos (by omega), if_pos (by omega), hb, wrap_succ i (by omega), hx, dig]
    have hu := s.data.toList[i].toNat_lt
    generalize s.data.toList[i].toNat = d at hu ⊢
    by_cases h1 : d < 48
    · rw [if_pos (by omega), if_neg (by omega)]; rfl
    · rw [if_neg (by omega)]
      by_cases h2 : 57 < d
      · rw [if_pos (by omega), if_neg (by omega)]; rfl
      · rw [if_neg (by omega), if_pos (by omega)]
        obtain ⟨p1, p2⟩ := pow_step (d := d - 48) ha (by omega) (by omega)
        rw [wrap_dig acc d (by omega) (by omega) p2]
        exact number_go s most hs n (i + 1) _ K (by omega) p1 (by omega)

/-- What the reference's Number hands back. -/
def numR (most : Nat) (s : List UInt8) (p : Int × Bool) : Prop := match number most s with
  | some n => p = ((n : Int), true)
  | none => p.2 = false
theorem ref_number (s : ByteArray) (most : Nat) (hm : most ≤ 2147483647) (K : Nat) (hK : 12 ≤ K) : ∃ p, drogherref30_Number.f K s (most : Int) = some p ∧ numR most s.data.toList p := by
  obtain ⟨K', rfl⟩ : ∃ K', K = K' + 1 := ⟨K - 1, by omega⟩
  have hno : (¬ (canon s.data.toList ∧ s.data.toList.length ≤ 10)) → numR most s.data.toList (0, false) := fun h => by
    unfold numR; rw [number_dig most hm, if_neg h]
  have hgo : canon s.data.toList → s.size ≤ 10 → ∃ p, drogherref30_Number.l0 K' s (most : Int) 0 0 = some p ∧ numR most s.data.toList p := fun hc hl => by
    refine ⟨_, number_go s most hl s.size 0 0 K' (by omega) (by decide) (by omega), ?_⟩
    unfold numR
    rw [number_dig most hm, if_pos ⟨hc, by simpa using hl⟩, List.drop_zero]
    cases dig 0 s.data.toList with
    | none => rfl
    | some n =>
      by_cases h : n ≤ most
      · simp only [if_pos h, digR]
        rw [decide_eq_true (by omega)]
      · simp only [if_neg h, digR]
        exact decide_eq_false (by omega)
  rw [drogherref30_Number.f, ByteArray.toList_eq]
  by_cases h1 : s.data.toList = []
  · rw [if_pos h1, drogherref30_Number.j0, if_pos rfl]
    exact ⟨_, rfl, hno (fun h => h.1.1 h1)⟩
  · rw [if_neg h1]
    have hp : 0 < s.data.toList.length := List.length_pos_iff.2 h1
    have hsz : s.data.toList.length = s.size := by simp
    by_cases h2 : 10 < s.size
    · rw [if_pos (by omega), drogherref30_Number.j0, if_pos rfl]
      exact ⟨_, rfl, hno (fun h => by have := h.2; omega)⟩
    · rw [if_neg (by omega)]
      by_cases h3 : 1 < s.size
      · have hb := btn_at s 0 hp
        rw [if_pos (by omega), if_pos (by omega)]
        have hb' : bt s 0 = ((s.data.toList[0]'hp).toNat : Int) := hb
        rw [hb', drogherref30_Number.j0]
        have hh : s.data.toList.head? = some (s.data.toList[0]'hp) := by rw [List.head?_eq_getElem?, List.getElem?_eq_getElem hp]
        by_cases h4 : s.data.toList[0]'hp = 48
        · rw [if_pos (by rw [h4]; rfl)]
          refine ⟨_, rfl, hno (fun h => h.1.2 (by omega) ?_)⟩
          rw [hh, h4]
        · have : ¬ (((s.data.toList[0]'hp).toNat : Int) == 48) = true := by
            intro h
            exact ne_int h4 (by simpa using h)
          rw [if_neg this]
          refine hgo ⟨h1, fun _ h => h4 ?_⟩ (by omega)
          rw [hh] at h
          exact Option.some.inj h
      · rw [if_neg (by omega), drogherref30_Number.j0, if_neg (by decide)]
        exact hgo ⟨h1, fun h => by omega⟩ (by omega)
end Go.Proofs.YtccnmbfigpjkaaaGreatDoor

namespace Go.Proofs.YtccnmbfigpjkaaaGreatDoor
open Go.RowKit Go.Proofs.YtccnmbfigpjkaaaGreatDoorW.PrintWords Go.Proofs.YtccnmbfigpjkaaaGreatDoor.PScriptRefuses
open Scr

namespace Scr
def mostOf (f : UInt8) : Nat := if f = 98 then 255 else 2147483647
/-- Words by a form. -/
def flds : List UInt8 → List (List UInt8) → Option (List Int × List (List Int))
  | [], _ => some ([], [])
  | _ :: _, [] => none
  | f :: fs, w :: ws => if f = 116 then (match unhex w, flds fs ws with
      | some t, some (n, ts) => some (n, t :: ts)
      | _, _ => none)
    else (match number (mostOf f) w, flds fs ws with
      | some n, some (ns, ts) => some ((n : Int) :: ns, ts)
      | _, _ => none)
theorem mostOf_le (f : UInt8) : mostOf f ≤ 2147483647 := by unfold mostOf; split <;> decide
end Scr

/-- What the reference's Fields hands back. -/
def fldR (o : Option (List Int × List (List Int))) (p : List Int × List (List Int) × Bool) : Prop := match o with
  | some (n, t) => p = (n, t, true)
  | none => p.2.2 = false
theorem rdOf_nat (ws : List ByteArray) (i : Nat) (h : i < ws.length) : rdOf ByteArray.empty ws (i : Int) = ws[i] := by
  simp [rdOf, h]
theorem fields_go (ws : List ByteArray) (form : ByteArray) (hf : form.size ≤ 1000) (hl : ws.length = form.size + 1) (M : Nat) (hM : ∀ x ∈ ws, x.size ≤ M) (hM2 : M ≤ 100000) : ∀ (n i : Nat) (ns : List Int) (ts : List (List Int)) (K : Nat),
    i + n = form.size → ns.length ≤ i → ts.length ≤ i → n + M + 20 ≤ K →
    ∃ p, drogherref30_Fields.l0 K ws form (i : Int) ns ts = some p ∧ fldR ((flds (form.data.toList.drop i) ((ws.map fun b => b.data.toList).drop (i + 1))).map fun q => (ns ++ q.1, ts ++ q.2)) p
  | _, _, _, _, 0, _, _, _, h => by omega
  | 0, i, ns, ts, K + 1, hi, _, _, _ => by
    have : form.data.toList.drop i = [] := by rw [List.drop_eq_nil_iff]; simp; omega
    rw [drogherref30_Fields.l0, if_neg (by omega), this]
    exact ⟨_, rfl, by simp [flds, fldR]⟩
  | n + 1, i, ns, ts, K + 1, hi, hn, ht, hK => by
    have hlt : i < form.data.toList.length := by simp; omega
    have hx := drop_cons hlt
    have hb := btn_at form i hlt
    have hwl : i + 1 < ws.length := by omega
    have hw : (ws.map fun b => b.data.toList).drop (i + 1) = ws[i + 1].data.toList :: (ws.map fun b => b.data.toList).drop (i + 1 + 1) := by
      rw [List.drop_eq_getElem_cons (by simpa using hwl)]; simp
    have hs := hM _ (List.getElem_mem hwl)
    rw [drogherref30_Fields.l0, if_pos (by omega), wrap_succ i (by omega), if_pos (by omega), if_pos (by omega), if_pos (by omega), hb, rdOf_nat _ _ hwl, hx, hw]
    generalize ws[i + 1] = x at hs ⊢
    generalize form.data.toList[i] = f
    by_cases h1 : f = 116
    · rw [if_pos (show (f.toNat : Int) = 116 by rw [h1]; rfl), ref_unhex x (by omega) K (by omega), Option.bind_some, flds, if_pos h1]
      cases hu : unhex x.data.toList with
      | none => exact ⟨_, rfl, rfl⟩
      | some t =>
        rw [unhexR, if_pos rfl, if_pos (by omega)]
        obtain ⟨p, hp1, hp2⟩ := fields_go ws form hf hl M hM hM2 n (i + 1) ns (ts ++ [t]) K (by omega) (by omega) (by simp; omega) (by omega)
        refine ⟨p, hp1, ?_⟩
        cases hq : flds (form.data.toList.drop (i + 1)) ((ws.map fun b => b.data.toList).drop (i + 1 + 1)) with
        | none => rw [hq] at hp2; exact hp2
        | some q => rw [hq] at hp2; simpa [fldR] using hp2
    · rw [if_neg (show ¬ ((f.toNat : Int) = 116) from ne_int h1), flds, if_neg h1]
      have key : ∀ most : Nat, mostOf f = most → most ≤ 2147483647 → ∃ p, ((drogherref30_Number.f K x (most : Int)).bind fun bt : Int × Bool => if bt.2 = true then (if ns.length < 17592186044416 then drogherref30_Fields.l0 K ws form ((i + 1 : Nat) : Int) (ns ++ [bt.1]) ts else none) else some (ns, ts, false)) = some p ∧
          fldR ((match number (mostOf f) x.data.toList, flds (form.data.toList.drop (i + 1)) ((ws.map fun b : ByteArray => b.data.toList).drop (i + 1 + 1)) with
            | some n, some (ns', ts') => some ((n : Int) :: ns', ts')
            | _, _ => none).map fun q : List Int × List (List Int) => (ns ++ q.1, ts ++ q.2)) p := fun most hm hle => by
        obtain ⟨p, hp1, hp2⟩ := ref_number x most hle K (by omega)
        rw [hp1, Option.bind_some, hm]
        unfold numR at hp2
        cases hu : number most x.data.toList with
        | none =>
          rw [hu] at hp2
          rw [if_neg (by rw [hp2]; decide)]
          exact ⟨_, rfl, rfl⟩
        | some v =>
          rw [hu] at hp2
          subst hp2
          rw [if_pos rfl, if_pos (by omega)]
          obtain ⟨p, hp1, hp2⟩ := fields_go ws form hf hl M hM hM2 n (i + 1) (ns ++ [(v : Int)]) ts K (by omega) (by simp; omega) (by omega) (by omega)
          refine ⟨p, hp1, ?_⟩
          cases hq : flds (form.data.toList.drop (i + 1)) ((ws.map fun b : ByteArray => b.data.toList).drop (i + 1 + 1)) with
          | none => rw [hq] at hp2; exact hp2
          | some q => rw [hq] at hp2; simpa [fldR] using hp2
      by_cases h2 : f = 98
      · rw [if_pos (show (f.toNat : Int) = 98 by rw [h2]; rfl)]
        exact key 255 (by unfold mostOf; rw [if_pos h2]) (by decide)
      · rw [if_neg (show ¬ ((f.toNat : Int) = 98) from ne_int h2)]
        exact key 2147483647 (by unfold mostOf; rw [if_neg h2]) (by decide)
theorem ref_fields (ws : List ByteArray) (form : ByteArray) (hf : form.size ≤ 1000) (M : Nat) (hM : ∀ x ∈ ws, x.size ≤ M) (hM2 : M ≤ 100000) (K : Nat) (hK : form.size + M + 20 ≤ K) :
    ∃ p, drogherref30_Fields.f K ws form = some p ∧ fldR (if ws.length = form.size + 1 then flds form.data.toList ((ws.map fun b => b.data.toList).drop 1) else none) p := by
  rw [drogherref30_Fields.f]
  have hw : wrap64 ((form.size : Int) + 1) = ((form.size + 1 : Nat) : Int) := wrap_succ _ (by omega)
  rw [hw]
  by_cases h : ws.length = form.size + 1
  · rw [if_pos (by omega), if_pos h]
    obtain ⟨p, hp1, hp2⟩ := fields_go ws form hf h M hM hM2 form.size 0 [] [] K (by omega) (Nat.le_refl _) (Nat.le_refl _) (by omega)
    refine ⟨p, hp1, ?_⟩
    rw [Nat.zero_add, List.drop_zero] at hp2
    cases hq : flds form.data.toList ((ws.map fun b => b.data.toList).drop 1) with
    | none => rw [hq] at hp2; exact hp2
    | some q => rw [hq] at hp2; exact hp2
  · rw [if_neg (by omega), if_neg h]
    exact ⟨_, rfl, rfl⟩
end Go.Proofs.YtccnmbfigpjkaaaGreatDoor

namespace Go.Proofs.YtccnmbfigpjkaaaGreatDoor
open Go.RowKit Go.Proofs.YtccnmbfigpjkaaaGreatDoorW.PrintWords Go.Proofs.YtccnmbfigpjkaaaGreatDoor.PScriptRefuses
open Scr

namespace Scr
/-- What comes of a line, nothing left behind it. -/
def fin : Out ActD → ActD × Int
  | .bad e => (actZ, e)
  | .ok a [] => (a, 0)
  | .ok _ (_ :: _) => (actZ, 3)
/-- The act of a line; none where it has an error. -/
def actR (s : List UInt8) : ActD × Int := fin (actOf (wordsOf s))
theorem actR_read (s : List UInt8) : (actR s).2 = (readOf s).2 ∧ ((readOf s).2 = 0 → actR s = readOf s) ∧ ((readOf s).2 ≠ 0 → (actR s).1 = actZ) := by
  unfold actR readOf
  cases h : actOf (wordsOf s) with
  | bad e => exact ⟨rfl, fun _ => rfl, fun _ => rfl⟩
  | ok a r =>
    cases r with
    | nil => exact ⟨rfl, fun _ => rfl, fun h => absurd rfl h⟩
    | cons _ _ => exact ⟨rfl, fun h => by simp at h, fun _ => rfl⟩
/-- A first word's form and kind. -/
def formOf (k : List UInt8) : ByteArray × Int × Bool :=
  if k = wBuild then (⟨#[98, 110, 116]⟩, 1, true) else if k = wFeed then (⟨#[110, 110]⟩, 2, true) else if k = wBegin then (⟨#[]⟩, 3, true) else if k = wCommit then (⟨#[]⟩, 4, true)
  else if k = wCancel then (⟨#[]⟩, 5, true) else if k = wFuse then (⟨#[110]⟩, 6, true) else if k = wFall then (⟨#[116]⟩, 7, true) else if k = wSpoil then (⟨#[110, 110, 98]⟩, 8, true)
  else if k = wImage then (⟨#[]⟩, 9, true) else if k = wStatus then (⟨#[]⟩, 10, true) else (⟨#[]⟩, 0, false)
end Scr
theorem ref_form (s : ByteArray) : drogherref30_form.f s = some (formOf s.data.toList) := by
  unfold drogherref30_form.f formOf
  rw [ByteArray.toList_eq]
  simp only [apply_ite some]
  rfl

/-- An act as the reference spells it. -/
def tup (q : ActD × Int) : Int × Int × Int × Int × Int × List Int × Int := (q.1.kind, q.1.mode, q.1.p, q.1.n, q.1.version, q.1.data, q.2)
/-- What the reference makes of a kind and its fields. -/
def actTail (kind : Int) (p : List Int × List (List Int) × Bool) : Option (Int × Int × Int × Int × Int × List Int × Int) :=
  if p.2.2 = true then (if kind = 1 then (if 0 < (p.1.length : Int) then (if 1 < (p.1.length : Int) then (if 0 < (p.2.1.length : Int) then (some (kind, (rd p.1 0) % 256, 0, 0, IntKind.u64.wrap (rd p.1 1), rd_L3 p.2.1 0, 0)) else (none)) else (none)) else (none))
  else (if kind = 2 then (if 0 < (p.1.length : Int) then (if 1 < (p.1.length : Int) then (some (kind, 0, rd p.1 0, rd p.1 1, 0, ([] : List Int), 0)) else (none)) else (none))
  else (if kind = 6 then (if 0 < (p.1.length : Int) then (some (kind, 0, 0, rd p.1 0, 0, ([] : List Int), 0)) else (none))
  else (if kind = 7 then (if 0 < (p.2.1.length : Int) then (some (kind, 0, 0, 0, 0, rd_L3 p.2.1 0, 0)) else (none))
  else (if kind = 8 then (if 0 < (p.1.length : Int) then (if 1 < (p.1.length : Int) then (if 2 < (p.1.length : Int) then (some (kind, (rd p.1 2) % 256, rd p.1 0, rd p.1 1, 0, ([] : List Int), 0)) else (none)) else (none)) else (none))
  else (some (kind, 0, 0, 0, 0, ([] : List Int), 0))))))) else (some (0, 0, 0, 0, 0, ([] : List Int), 3))

theorem tail_no {kind : Int} {p : List Int × List (List Int) × Bool} (h : p.2.2 = false) : actTail kind p = some (tup (actZ, 3)) := by
  unfold actTail; rw [h]; rfl
theorem fin_n (most : Nat) (a : ActD) : fin (takeN most [] fun _ r => .ok a r) = (actZ, 3) := rfl

/-- No word behind the kind. -/
theorem tail_bare (kind : Int) (hk : kind = 3 ∨ kind = 4 ∨ kind = 5 ∨ kind = 9 ∨ kind = 10) (r : List (List UInt8)) (p : List Int × List (List Int) × Bool) (hp : fldR (if r.length + 1 = 0 + 1 then flds [] r else none) p) :
    actTail kind p = some (tup (fin (.ok ⟨kind, 0, 0, 0, 0, []⟩ r))) := by
  cases r with
  | nil =>
    rw [if_pos (by simp)] at hp
    have : p = ([], [], true) := hp
    subst this
    rcases hk with rfl | rfl | rfl | rfl | rfl <;> rfl
  | cons a r =>
    rw [if_neg (by simp)] at hp
    exact tail_no hp
theorem u64_id {n : Nat} (h : n ≤ 2147483647) : IntKind.u64.wrap (n : Int) = n := IntWalk.u64_in _ (by omega)
theorem tail_n1 (r : List (List UInt8)) (p : List Int × List (List Int) × Bool) (hp : fldR (if r.length + 1 = 1 + 1 then flds [110] r else none) p) :
    actTail 6 p = some (tup (fin (takeN 2147483647 r fun n r => .ok ⟨6, 0, 0, n, 0, []⟩ r))) := by
  rcases r with _ | ⟨a, _ | ⟨b, t⟩⟩
  · exact tail_no hp
  · rw [if_pos (by simp)] at hp
    simp only [takeN, num]
    cases h : number 2147483647 a with
    | none => simp [flds, mostOf, h, fldR] at hp; exact tail_no hp
    | some n => simp [flds, mostOf, h, fldR] at hp; subst hp; rfl
  · rw [if_neg (by simp)] at hp
    rw [tail_no hp]
    simp only [takeN, num]
    cases h : number 2147483647 a <;> rfl
theorem tail_t1 (r : List (List UInt8)) (p : List Int × List (List Int) × Bool) (hp : fldR (if r.length + 1 = 1 + 1 then flds [116] r else none) p) :
    actTail 7 p = some (tup (fin (takeT r fun d r => .ok ⟨7, 0, 0, 0, 0, d⟩ r))) := by
  rcases r with _ | ⟨a, _ | ⟨b, t⟩⟩
  · exact tail_no hp
  · rw [if_pos (by simp)] at hp
    simp only [takeT, txt]
    cases h : unhex a with
    | none => simp [flds, h, fldR] at hp; exact tail_no hp
    | some n => simp [flds, h, fldR] at hp; subst hp; rfl
  · rw [if_neg (by simp)] at hp
    rw [tail_no hp]
    simp only [takeT, txt]
    cases h : unhex a <;> rfl
theorem tail_n2 (r : List (List UInt8)) (p : List Int × List (List Int) × Bool) (hp : fldR (if r.length + 1 = 2 + 1 then flds [110, 110] r else none) p) :
    actTail 2 p = some (tup (fin (takeN 2147483647 r fun p r => takeN 2147483647 r fun n r => .ok ⟨2, 0, p, n, 0, []⟩ r))) := by
  rcases r with _ | ⟨a, _ | ⟨b, _ | ⟨c, t⟩⟩⟩
  · exact tail_no hp
  · rw [if_neg (by simp)] at hp
    rw [tail_no hp]
    simp only [takeN, num]
    cases h : number 2147483647 a <;> rfl
  · rw [if_pos (by simp)] at hp
    simp only [takeN, num]
    cases h : number 2147483647 a with
    | none => simp [flds, mostOf, h, fldR] at hp; exact tail_no hp
    | some n =>
      cases h2 : number 2147483647 b with
      | none => simp [flds, mostOf, h, h2, fldR] at hp; rw [tail_no hp]; simp [h2]; rfl
      | some m => simp [flds, mostOf, h, h2, fldR] at hp; subst hp; simp [h2]; rfl
  · rw [if_neg (by simp)] at hp
    rw [tail_no hp]
    simp only [takeN, num]
    cases h : number 2147483647 a with
    | none => rfl
    | some n => cases h2 : number 2147483647 b <;> simp [h2] <;> rfl
theorem tail_nnb (r : List (List UInt8)) (p : List Int × List (List Int) × Bool) (hp : fldR (if r.length + 1 = 3 + 1 then flds [110, 110, 98] r else none) p) :
    actTail 8 p = some (tup (fin (takeN 2147483647 r fun p r => takeN 2147483647 r fun n r => takeN 255 r fun m r => .ok ⟨8, m, p, n, 0, []⟩ r))) := by
  rcases r with _ | ⟨a, _ | ⟨b, _ | ⟨c, _ | ⟨d, t⟩⟩⟩⟩
  · exact tail_no hp
  · rw [if_neg (by simp)] at hp
    rw [tail_no hp]
    simp only [takeN, num]
    cases h : number 2147483647 a <;> rfl
  · rw [if_neg (by simp)] at hp
    rw [tail_no hp]
    simp only [takeN, num]
    cases h : number 2147483647 a with
    | none => rfl
    | some n => cases h2 : number 2147483647 b <;> simp [h2] <;> rfl
  · rw [if_pos (by simp)] at hp
    simp only [takeN, num]
    cases h : number 2147483647 a with
    | none => simp [flds, mostOf, h, fldR] at hp; exact tail_no hp
    | some n =>
      cases h2 : number 2147483647 b with
      | none => simp [flds, mostOf, h, h2, fldR] at hp; rw [tail_no hp]; simp [h2]; rfl
      | some m =>
        cases h3 : number 255 c with
        | none => simp [flds, mostOf, h, h2, h3, fldR] at hp; rw [tail_no hp]; simp [h2, h3]; rfl
        | some v =>
          have hv := number_le h3
          simp [flds, mostOf, h, h2, h3, fldR] at hp
          subst hp
          have e : ((v : Int) % 256) = v := by omega
          simp [h2, h3, actTail, rd, e, fin, tup]
  · rw [if_neg (by simp)] at hp
    rw [tail_no hp]
    simp only [takeN, num]
    cases h : number 2147483647 a with
    | none => rfl
    | some n =>
      cases h2 : number 2147483647 b with
      | none => simp [h2]; rfl
      | some m => cases h3 : number 255 c <;> simp [h2, h3] <;> rfl
theorem tail_bnt (r : List (List UInt8)) (p : List Int × List (List Int) × Bool) (hp : fldR (if r.length + 1 = 3 + 1 then flds [98, 110, 116] r else none) p) :
    actTail 1 p = some (tup (fin (takeN 255 r fun m r => takeN 2147483647 r fun v r => takeT r fun d r => .ok ⟨1, m, 0, 0, v, d⟩ r))) := by
  rcases r with _ | ⟨a, _ | ⟨b, _ | ⟨c, _ | ⟨d, t⟩⟩⟩⟩
  · exact tail_no hp
  · rw [if_neg (by simp)] at hp
    rw [tail_no hp]
    simp only [takeN, num]
    cases h : number 255 a <;> rfl
  · rw [if_neg (by simp)] at hp
    rw [tail_no hp]
    simp only [takeN, num]
    cases h : number 255 a with
    | none => rfl
    | some n => cases h2 : number 2147483647 b <;> simp [h2] <;> rfl
  · rw [if_pos (by simp)] at hp
    simp only [takeN, num, takeT, txt]
    cases h : number 255 a with
    | none => simp [flds, mostOf, h, fldR] at hp; exact tail_no hp
    | some n =>
      have hn := number_le h
      cases h2 : number 2147483647 b with
      | none => simp [flds, mostOf, h, h2, fldR] at hp; rw [tail_no hp]; simp [h2]; rfl
      | some m =>
        have hm := number_le h2
        cases h3 : unhex c with
        | none => simp [flds, mostOf, h, h2, h3, fldR] at hp; rw [tail_no hp]; simp [h2, h3]; rfl
        | some v =>
          simp [flds, mostOf, h, h2, h3, fldR] at hp
          subst hp
          have e : ((n : Int) % 256) = n := by omega
          simp [h2, h3, actTail, rd, rd_L3, e, u64_id hm, fin, tup]
  · rw [if_neg (by simp)] at hp
    rw [tail_no hp]
    simp only [takeN, num, takeT, txt]
    cases h : number 255 a with
    | none => rfl
    | some n =>
      cases h2 : number 2147483647 b with
      | none => simp [h2]; rfl
      | some m => cases h3 : unhex c <;> simp [h2, h3] <;> rfl
end Go.Proofs.YtccnmbfigpjkaaaGreatDoor
