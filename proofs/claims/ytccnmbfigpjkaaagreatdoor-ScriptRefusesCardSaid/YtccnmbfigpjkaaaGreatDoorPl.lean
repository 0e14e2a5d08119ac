/-
  DERIVED. What a script is, on lists of bytes: hexadecimal texts, numbers, words. Plain functions; no program in sight.
-/
import Derived.Lib.ItoaNum
import Derived.Lib.ParseIntB
import Derived.Lib.Split
import Derived.Lib.Bytealg
namespace Go.Proofs.YtccnmbfigpjkaaaGreatDoor
namespace Scr

/-- The value of a hexadecimal digit in small letters. -/
def hexv (c : UInt8) : Option Nat :=
  if 48 ≤ c.toNat ∧ c.toNat ≤ 57 then some (c.toNat - 48) else if 97 ≤ c.toNat ∧ c.toNat ≤ 102 then some (c.toNat - 87) else none

theorem hexv_lt {c : UInt8} {x : Nat} (h : hexv c = some x) : x < 16 := by
  unfold hexv at h
  split at h
  · cases h; omega
  · split at h
    · cases h; omega
    · cases h

/-- The sixteen digits. -/
def digits : List UInt8 := [48, 49, 50, 51, 52, 53, 54, 55, 56, 57, 97, 98, 99, 100, 101, 102]

/-- The place among the digits. -/
def place (c : UInt8) : Int := match hexv c with | some x => (x : Int) | none => -1
theorem index_all : ∀ n : Fin 256, Lib.indexByte digits (UInt8.ofNat n.val) = place (UInt8.ofNat n.val) := by decide +kernel
theorem index_place (c : UInt8) : Lib.indexByte digits c = place c := by
  have h := index_all ⟨c.toNat, by have := c.toNat_lt; omega⟩
  simpa using h
theorem place_some {c : UInt8} {x : Nat} (h : hexv c = some x) : place c = x := by unfold place; rw [h]
theorem place_none {c : UInt8} (h : hexv c = none) : place c = -1 := by unfold place; rw [h]

/-- Two digits a byte. -/
def pairs : List UInt8 → Option (List Int)
  | [] => some []
  | [_] => none
  | a :: b :: r => match hexv a, hexv b, pairs r with
    | some x, some y, some t => some (((16 * x + y : Nat) : Int) :: t)
    | _, _, _ => none

/-- A text's bytes. -/
def unhex (s : List UInt8) : Option (List Int) := if s = [46] then some [] else if s = [] then none else pairs s

theorem pairs_bound : ∀ {s : List UInt8} {xs : List Int}, pairs s = some xs → ∀ x ∈ xs, 0 ≤ x ∧ x < 256
  | [], xs, h, x, hx => by simp [pairs] at h; subst h; simp at hx
  | [_], xs, h, x, hx => by simp [pairs] at h
  | a :: b :: r, xs, h, x, hx => by
    unfold pairs at h
    cases ha : hexv a with
    | none => simp [ha] at h
    | some p =>
      cases hb : hexv b with
      | none => simp [ha, hb] at h
      | some q =>
        cases hr : pairs r with
        | none => simp [ha, hb, hr] at h
        | some t =>
          simp only [ha, hb, hr, Option.some.injEq] at h
          subst h
          have h1 := hexv_lt ha
          have h2 := hexv_lt hb
          rcases List.mem_cons.1 hx with rfl | hx
          · omega
          · exact pairs_bound hr x hx
theorem pairs_length : ∀ {s : List UInt8} {xs : List Int}, pairs s = some xs → s.length = 2 * xs.length
  | [], xs, h => by simp [pairs] at h; subst h; rfl
  | [_], xs, h => by simp [pairs] at h
  | a :: b :: r, xs, h => by
    unfold pairs at h
    cases ha : hexv a with
    | none => simp [ha] at h
    | some p =>
      cases hb : hexv b with
      | none => simp [ha, hb] at h
      | some q =>
        cases hr : pairs r with
        | none => simp [ha, hb, hr] at h
        | some t =>
          simp only [ha, hb, hr, Option.some.injEq] at h
          subst h
          have := pairs_length hr
          simp only [List.length_cons]
          omega
theorem unhex_bound {s : List UInt8} {xs : List Int} (h : unhex s = some xs) : ∀ x ∈ xs, 0 ≤ x ∧ x < 256 := by
  unfold unhex at h
  split at h
  · cases h; simp
  · split at h
    · cases h
    · exact pairs_bound h
theorem pairs_odd : ∀ {s : List UInt8}, s.length % 2 = 1 → pairs s = none
  | [], h => by simp at h
  | [_], _ => rfl
  | a :: b :: r, h => by
    have := pairs_odd (s := r) (by simp at h; omega)
    unfold pairs
    rw [this]
    cases hexv a <;> cases hexv b <;> rfl

/-- The step of a loop over pairs: of a prefix of even length that is read, and two bytes more. -/
theorem pairs_snoc : ∀ {s : List UInt8} {xs : List Int} {a b : UInt8} {x y : Nat}, pairs s = some xs → hexv a = some x → hexv b = some y → pairs (s ++ [a, b]) = some (xs ++ [((16 * x + y : Nat) : Int)])
  | [], xs, a, b, x, y, h, ha, hb => by simp [pairs] at h; subst h; simp [pairs, ha, hb]
  | [_], xs, a, b, x, y, h, ha, hb => by simp [pairs] at h
  | c :: d :: r, xs, a, b, x, y, h, ha, hb => by
    unfold pairs at h
    cases hc : hexv c with
    | none => simp [hc] at h
    | some p =>
      cases hd : hexv d with
      | none => simp [hc, hd] at h
      | some q =>
        cases hr : pairs r with
        | none => simp [hc, hd, hr] at h
        | some t =>
          simp only [hc, hd, hr, Option.some.injEq] at h
          subst h
          simp only [List.cons_append]
          unfold pairs
          rw [hc, hd, pairs_snoc hr ha hb]
/-- Two bytes that are no digits spoil all, wherever they stand at an even place. -/
theorem pairs_bad : ∀ {s : List UInt8} {a b : UInt8} (r : List UInt8), s.length % 2 = 0 → (hexv a = none ∨ hexv b = none) → pairs (s ++ a :: b :: r) = none
  | [], a, b, r, _, h => by
    simp only [List.nil_append]
    unfold pairs
    rcases h with h | h
    · rw [h]
    · rw [h]; cases hexv a <;> rfl
  | [_], _, _, _, h, _ => by simp at h
  | c :: d :: t, a, b, r, hl, h => by
    simp only [List.cons_append]
    unfold pairs
    rw [pairs_bad r (by simp at hl; omega) h]
    cases hexv c <;> cases hexv d <;> rfl

/-- A number of a line, up to a most: what strconv.ParseUint reads, if that is written so. -/
def number (most : Nat) (s : List UInt8) : Option Nat :=
  match Lib.parseUintB 32 s with
  | .ok n => if n ≤ most ∧ Lib.decDigits n = s then some n else none
  | _ => none
theorem number_le {most n : Nat} {s : List UInt8} (h : number most s = some n) : n ≤ most := by
  unfold number at h
  split at h
  · split at h
    · cases h; omega
    · cases h
  · cases h

/-- A number, a text, taken off the words. -/
def num (most : Nat) : List (List UInt8) → Option (Nat × List (List UInt8))
  | [] => none
  | s :: r => (number most s).map fun n => (n, r)
def txt : List (List UInt8) → Option (List Int × List (List UInt8))
  | [] => none
  | s :: r => (unhex s).map fun xs => (xs, r)

/-- An act. -/
structure ActD where
  kind : Int
  mode : Int
  p : Int
  n : Int
  version : Int
  data : List Int

/-- What comes of a line: something, and the words behind it; or an error. -/
inductive Out (α : Type) where
  | ok (a : α) (rest : List (List UInt8))
  | bad (e : Int)

def takeN {α : Type} (most : Nat) (r : List (List UInt8)) (f : Nat → List (List UInt8) → Out α) : Out α :=
  match num most r with
  | some (n, r) => f n r
  | none => .bad 3
def takeT {α : Type} (r : List (List UInt8)) (f : List Int → List (List UInt8) → Out α) : Out α :=
  match txt r with
  | some (xs, r) => f xs r
  | none => .bad 3

def wBuild : List UInt8 := [98, 117, 105, 108, 100]
def wFeed : List UInt8 := [102, 101, 101, 100]
def wSpoil : List UInt8 := [115, 112, 111, 105, 108]
def wFuse : List UInt8 := [102, 117, 115, 101]
def wFall : List UInt8 := [102, 97, 108, 108]
def wBegin : List UInt8 := [98, 101, 103, 105, 110]
def wCommit : List UInt8 := [99, 111, 109, 109, 105, 116]
def wCancel : List UInt8 := [99, 97, 110, 99, 101, 108]
def wImage : List UInt8 := [105, 109, 97, 103, 101]
def wStatus : List UInt8 := [115, 116, 97, 116, 117, 115]
def wWorld : List UInt8 := [119, 111, 114, 108, 100]

/-- The words behind a kind's word. -/
def fields (k : List UInt8) (r : List (List UInt8)) : Out ActD :=
  if k = wBuild then takeN 255 r fun m r => takeN 2147483647 r fun v r => takeT r fun d r => .ok ⟨1, m, 0, 0, v, d⟩ r
  else if k = wFeed then takeN 2147483647 r fun p r => takeN 2147483647 r fun n r => .ok ⟨2, 0, p, n, 0, []⟩ r
  else if k = wSpoil then takeN 2147483647 r fun p r => takeN 2147483647 r fun n r => takeN 255 r fun m r => .ok ⟨8, m, p, n, 0, []⟩ r
  else if k = wFuse then takeN 2147483647 r fun n r => .ok ⟨6, 0, 0, n, 0, []⟩ r
  else if k = wFall then takeT r fun d r => .ok ⟨7, 0, 0, 0, 0, d⟩ r
  else if k = wBegin then .ok ⟨3, 0, 0, 0, 0, []⟩ r
  else if k = wCommit then .ok ⟨4, 0, 0, 0, 0, []⟩ r
  else if k = wCancel then .ok ⟨5, 0, 0, 0, 0, []⟩ r
  else if k = wImage then .ok ⟨9, 0, 0, 0, 0, []⟩ r
  else if k = wStatus then .ok ⟨10, 0, 0, 0, 0, []⟩ r
  else .bad 21
/-- An act off the words of a line. -/
def actOf : List (List UInt8) → Out ActD
  | [] => .bad 3
  | k :: r => fields k r

def actZ : ActD := ⟨0, 0, 0, 0, 0, []⟩
/-- The words of a line. -/
def wordsOf (s : List UInt8) : List (List UInt8) := Lib.split s [32]
/-- The act of a line, and the error's number. -/
def readOf (s : List UInt8) : ActD × Int :=
  match actOf (wordsOf s) with
  | .bad e => (actZ, e)
  | .ok a [] => (a, 0)
  | .ok a (_ :: _) => (a, 3)

/-- What the first line tells. -/
structure StartD where
  sector : Int
  block : Int
  slot : Int
  seed : List Int
  image : List Int
  version : Int
def startOf : List (List UInt8) → Out StartD
  | [] => .bad 3
  | k :: r => if k = wWorld then
      takeN 2147483647 r fun a r => takeN 2147483647 r fun b r => takeN 2147483647 r fun c r => takeN 2147483647 r fun v r => takeT r fun s r => takeT r fun i r => .ok ⟨a, b, c, s, i, v⟩ r
    else .bad 21
/-- What comes of the first line: a start, or the error's number. -/
inductive Begun where
  | ok (x : StartD)
  | bad (e : Int)
def beginOf (s : List UInt8) : Begun :=
  match startOf (wordsOf s) with
  | .bad e => .bad e
  | .ok x [] => .ok x
  | .ok _ (_ :: _) => .bad 3

/-- How far a reader is. -/
structure RdD where
  x : StartD
  acts : List ActD
  begun : Bool
inductive Step where
  | ok (r : RdD)
  | bad (e : Int)
def startZ : StartD := ⟨0, 0, 0, [], [], 0⟩
def rdZ : RdD := ⟨startZ, [], false⟩
/-- A line that says something. -/
def sayOf (r : RdD) (t : List UInt8) : Step :=
  if r.begun then (if (readOf t).2 = 0 then .ok { r with acts := r.acts ++ [(readOf t).1] } else .bad (readOf t).2)
  else match beginOf t with
    | .ok x => .ok { r with x := x, begun := true }
    | .bad e => .bad e
/-- A line, its line feed gone. -/
def lineOf (r : RdD) (t : List UInt8) : Step := if t = [] then .ok r else if t.head? = some 35 then .ok r else sayOf r t
/-- A line as it is cut off the text. -/
def oneOf (r : RdD) (s : List UInt8) : Step := if s.getLast? = some 10 then lineOf r s.dropLast else .bad 22

/-- The lines of a text, each with its line feed. -/
def linesGo : List UInt8 → List UInt8 → List (List UInt8)
  | cur, [] => if cur = [] then [] else [cur]
  | cur, c :: r => if c = 10 then (cur ++ [c]) :: linesGo [] r else linesGo (cur ++ [c]) r
def linesOf (s : List UInt8) : List (List UInt8) := linesGo [] s

/-- A part without a line feed. -/
theorem linesGo_none : ∀ (cur s : List UInt8), Lib.indexByte s 10 = -1 → linesGo cur s = if cur ++ s = [] then [] else [cur ++ s]
  | cur, [], _ => by simp [linesGo]
  | cur, c :: r, h => by
    unfold Lib.indexByte at h
    split at h
    · cases h
    · rename_i hc
      have hc' : ¬ c = 10 := by simpa using hc
      split at h
      · rename_i hr
        rw [linesGo, if_neg hc', linesGo_none _ r (by simpa using hr)]
        simp
      · rename_i hr
        exfalso
        have hge := Lib.indexByte_ge r 10
        omega
theorem linesGo_some : ∀ (cur s : List UInt8) (i : Nat), Lib.indexByte s 10 = i → linesGo cur s = (cur ++ s.take (i + 1)) :: linesGo [] (s.drop (i + 1)) ∧ i < s.length
  | cur, [], i, h => by simp [Lib.indexByte] at h
  | cur, c :: r, i, h => by
    unfold Lib.indexByte at h
    split at h
    · rename_i hc
      have hc' : c = 10 := by simpa using hc
      have hi : i = 0 := by omega
      subst hi
      rw [linesGo, if_pos hc']
      simp
    · rename_i hc
      have hc' : ¬ c = 10 := by simpa using hc
      split at h
      · omega
      · rename_i hr
        have hge := Lib.indexByte_ge r 10
        have hr' : ¬ Lib.indexByte r 10 = -1 := by simpa using hr
        obtain ⟨j, rfl⟩ : ∃ j, i = j + 1 := ⟨i - 1, by omega⟩
        obtain ⟨h1, h2⟩ := linesGo_some (cur ++ [c]) r j (by omega)
        rw [linesGo, if_neg hc', h1]
        refine ⟨by simp, ?_⟩
        simp only [List.length_cons]
        omega
theorem linesOf_none {s : List UInt8} (hn : ¬ s = []) (h : Lib.indexByte s 10 = -1) : linesOf s = [s] := by
  unfold linesOf; rw [linesGo_none _ _ h]; simp [hn]
theorem linesOf_some {s : List UInt8} {i : Nat} (h : Lib.indexByte s 10 = i) : linesOf s = s.take (i + 1) :: linesOf (s.drop (i + 1)) := by
  unfold linesOf; rw [(linesGo_some _ _ _ h).1]; simp
theorem linesGo_length : ∀ (cur s : List UInt8), (linesGo cur s).length ≤ s.length + (if cur = [] then 0 else 1)
  | cur, [] => by unfold linesGo; split <;> simp
  | cur, c :: r => by
    unfold linesGo
    split
    · have := linesGo_length [] r; simp at this ⊢; omega
    · have := linesGo_length (cur ++ [c]) r; simp at this ⊢; omega
theorem linesOf_length (s : List UInt8) : (linesOf s).length ≤ s.length := by
  have := linesGo_length [] s; simpa [linesOf] using this

/-- What the lines come to, one behind the other. -/
inductive PRes where
  | ok (r : RdD)
  | bad (line : Nat) (e : Int)
def runLines (r : RdD) (n : Nat) : List (List UInt8) → PRes
  | [] => .ok r
  | l :: ls => match oneOf r l with
    | .bad e => .bad (n + 1) e
    | .ok r => runLines r (n + 1) ls
theorem runLines_append : ∀ (a b : List (List UInt8)) (r r' : RdD) (n : Nat), runLines r n a = .ok r' → runLines r n (a ++ b) = runLines r' (n + a.length) b
  | [], b, r, r', n, h => by cases h; rfl
  | l :: a, b, r, r', n, h => by
    unfold runLines at h
    rw [List.cons_append, runLines]
    cases ho : oneOf r l with
    | bad e => rw [ho] at h; cases h
    | ok q =>
      rw [ho] at h
      simp only at h ⊢
      have e : n + 1 + a.length = n + (l :: a).length := by simp only [List.length_cons]; omega
      rw [runLines_append a b q r' (n + 1) h, e]
/-- What a text tells. -/
def parseOf (text : List UInt8) : PRes :=
  if 1000 < Lib.countByte text 10 then .bad 0 4
  else match runLines rdZ 0 (linesOf text) with
    | .bad n e => .bad n e
    | .ok r => if r.begun then .ok r else .bad 0 3

end Scr
end Go.Proofs.YtccnmbfigpjkaaaGreatDoor
