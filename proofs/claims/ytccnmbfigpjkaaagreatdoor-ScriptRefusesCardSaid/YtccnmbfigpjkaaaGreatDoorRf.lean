/-
  DERIVED. The reference's Act: the walk.
-/
import Derived.Test.YtccnmbfigpjkaaaGreatDoorRe
import Derived.Test.YtccnmbfigpjkaaaGreatDoorWl
namespace Go.Proofs.YtccnmbfigpjkaaaGreatDoor
open Go.RowKit Go.Sort Go.Proofs.YtccnmbfigpjkaaaGreatDoorW.PrintWords Go.Proofs.YtccnmbfigpjkaaaGreatDoorW.PrintMore Go.Proofs.YtccnmbfigpjkaaaGreatDoor.PScriptRefuses
open Scr

theorem rform_any (s : ByteArray) (f : ByteArray) (kind : Int) (ok : Bool) (h : formOf s.data.toList = (f, kind, ok)) (w : World) :
    Calls Tryz.prog 46 #[.string s] w fun e w' => e = .returned (.tuple #[.string f, .int .u8 kind, .bool ok]) ∧ Drawn0 w w' :=
  drogherref30_form.calls s f kind ok w (by rw [ref_form, h])

theorem wordsOf_cons (s : List UInt8) : ∃ k r, wordsOf s = k :: r := by
  rw [wordsOf_spl]
  cases h : spl s with
  | nil => exact absurd h (spl_ne s)
  | cons k r => exact ⟨k, r, rfl⟩

/-- The words, in a row of the call's own; each of them no longer than the line. -/
theorem rwords_any (s : ByteArray) (hs : s.size ≤ 5000) (w : World) :
    Calls Tryz.prog 44 #[.string s] w fun e w' => ∃ (k : ByteArray) (r : List ByteArray) (g c : Nat), e = .returned (.slice (some ⟨g, 0, none⟩) (r.length + 1) c) ∧ wordsOf s.data.toList = k.data.toList :: r.map (fun b => b.data.toList) ∧
      w.heap.size ≤ g ∧ g < w'.heap.size ∧ w'.cell? ⟨g, 0, none⟩ = some (.string k) ∧ Kd.V Kd.string 9 w' 0 (fun k => w.heap.size ≤ k) (.slice (some ⟨g, 0, none⟩) (r.length + 1) c) (k :: r) ∧ (∀ x ∈ k :: r, x.size ≤ 5000) ∧ Below w.heap.size w w' := by
  obtain ⟨ws, h1, h2⟩ := ref_words s (by omega) (s.size + 2) (Nat.le_refl _)
  refine (drogherref30_Words.calls _ s ws w h1).mono ?_
  rintro e w' ⟨v, rfl, hR, hB⟩
  cases ws with
  | nil =>
    exfalso
    obtain ⟨k, r, hk⟩ := wordsOf_cons s.data.toList
    rw [hk] at h2; cases h2
  | cons k r =>
    obtain ⟨g, c, rfl, hg, hlt, _⟩ := Kd.R_form hR (by simp)
    obtain ⟨ad, ha, hc⟩ := Kd.at_string (Kd.R_reads' hR).2.2 0 (Int.le_refl _) (by simp)
    injection ha with ha
    subst ha
    refine ⟨k, r, g, c, rfl, h2.symm, hg, hlt, hc, Kd.V_mono (Kd.V_bound (Kd.R_V (Kd.R_mono (Kd.R_bound hR) (fun k hk => hk.2.1)))) (fun k hk => hk.1), ?_, hB⟩
    intro x hx
    have hm : x.data.toList ∈ spl s.data.toList := by
      rw [← wordsOf_spl, ← h2]
      exact List.mem_map.2 ⟨x, hx, rfl⟩
    have := spl_length _ _ hm
    simp at this
    omega

/-- The fields, in rows of the call's own. -/
theorem rfields_any (ws : List ByteArray) (A : Option Addr) (c : Nat) (form : ByteArray) (hf : form.size ≤ 100) (hM : ∀ x ∈ ws, x.size ≤ 5000) (w : World) (ok : Nat → Prop) (hw : Kd.V Kd.string 9 w 0 ok (.slice A ws.length c) ws) :
    Calls Tryz.prog 45 #[.slice A ws.length c, .string form] w fun e w' => ∃ (p : List Int × List (List Int) × Bool) (v0 v1 : Value), e = .returned (.tuple #[.agg #[v0, v1], .bool p.2.2]) ∧
      fldR (if ws.length = form.size + 1 then flds form.data.toList ((ws.map fun b => b.data.toList).drop 1) else none) p ∧
      Kd.V (Kd.int .i64) 3 w' 0 (fun k => w.heap.size ≤ k) v0 p.1 ∧ Kd.V (Kd.slice 5 (Kd.int .u8)) 25 w' 0 (fun k => w.heap.size ≤ k) v1 p.2.1 ∧
      (0 < p.1.length → ∃ g c, v0 = .slice (some ⟨g, 0, none⟩) p.1.length c ∧ w.heap.size ≤ g) ∧ (0 < p.2.1.length → ∃ g c, v1 = .slice (some ⟨g, 0, none⟩) p.2.1.length c ∧ w.heap.size ≤ g) ∧ Below w.heap.size w w' := by
  obtain ⟨p, h1, h2⟩ := ref_fields ws form (by omega) 5000 hM (by decide) (form.size + 5020) (by omega)
  obtain ⟨q1, q2, q3⟩ := p
  have hr := Kd.V_reads' hw
  refine (drogherref30_Fields.calls _ A c ws form q1 q2 q3 w hr.2.2 hr.2.1 h1).mono ?_
  rintro e w' ⟨v0, v1, rfl, hN, hT, hB⟩
  exact ⟨(q1, q2, q3), v0, v1, rfl, h2, Kd.V_mono (Kd.R_V (Kd.R_bound hN)) (fun k hk => hk.2.1), Kd.V_mono (Kd.S_V (Kd.S_bound hT)) (fun k hk => hk.2.1),
    fun hp => (by obtain ⟨g, c, h, hb, _⟩ := Kd.R_form hN hp; exact ⟨g, c, h, hb⟩), fun hp => (by obtain ⟨g, c, h, hb, _⟩ := Kd.S_form hT hp; exact ⟨g, c, h, hb⟩), hB⟩

/-- What the reference's Act hands back. -/
def RActP (w : World) (q : ActD × Int) (E : Ending) (W : World) : Prop :=
  ∃ v, E = .returned (.tuple #[.agg (actCells q.1 v).toArray, .int .i64 q.2]) ∧ Kd.V (Kd.int .u8) 5 W 0 (fun k => w.heap.size ≤ k) v q.1.data ∧ Below w.heap.size w W


namespace Scr
theorem flds_len : ∀ (f : List UInt8) (ws : List (List UInt8)) (n : List Int) (t : List (List Int)), flds f ws = some (n, t) → n.length = (f.filter (· ≠ 116)).length ∧ t.length = f.count 116
  | [], _, n, t, h => by cases h; exact ⟨rfl, rfl⟩
  | _ :: _, [], n, t, h => by cases h
  | f :: fs, w :: ws, n, t, h => by
    unfold flds at h
    by_cases hf : f = 116
    · rw [if_pos hf] at h
      split at h
      · rename_i x n' t' hx hq
        cases h
        obtain ⟨h1, h2⟩ := flds_len fs ws _ _ hq
        subst hf
        exact ⟨by simpa using h1, by simpa using h2⟩
      · cases h
    · rw [if_neg hf] at h
      split at h
      · rename_i x n' t' hx hq
        cases h
        obtain ⟨h1, h2⟩ := flds_len fs ws _ _ hq
        exact ⟨by simp [hf]; simpa using h1, by rw [List.count_cons_of_ne hf]; exact h2⟩
      · cases h
end Scr
theorem fldR_len {f : List UInt8} {ws : List (List UInt8)} {b : Prop} [Decidable b] {p : List Int × List (List Int) × Bool} (h : fldR (if b then flds f ws else none) p) (hp : p.2.2 = true) : p.1.length = (f.filter (· ≠ 116)).length ∧ p.2.1.length = f.count 116 := by
  split at h
  · cases hq : flds f ws with
    | none => rw [hq] at h; have : p.2.2 = false := h; rw [hp] at this; cases this
    | some q => rw [hq] at h; have : p = (q.1, q.2, true) := h; subst this; exact flds_len _ _ _ _ hq
  · have : p.2.2 = false := h; rw [hp] at this; cases this
theorem tup_inj {a b : ActD × Int} (h : tup a = tup b) : a = b := by
  obtain ⟨⟨a0, a1, a2, a3, a4, a5⟩, a6⟩ := a
  obtain ⟨⟨b0, b1, b2, b3, b4, b5⟩, b6⟩ := b
  simp only [tup, Prod.mk.injEq] at h
  obtain ⟨rfl, rfl, rfl, rfl, rfl, rfl, rfl⟩ := h
  rfl
theorem cell_lt {W : World} {a : Addr} {v : Value} (h : W.cell? a = some v) : a.block < W.heap.size := by
  unfold World.cell? at h
  cases ho : W.heap[a.block]? with
  | none => simp [ho] at h
  | some o => exact (Array.getElem?_eq_some_iff.1 ho).1
/-- Numbers in memory. -/
theorem ints_at {W : World} {ok : Nat → Prop} {g n c : Nat} {xs : List Int} (h : Kd.V (Kd.int .i64) 3 W 0 ok (.slice (some ⟨g, 0, none⟩) n c) xs) (i : Nat) (hi : i < xs.length) : g < W.heap.size ∧ W.cell? ⟨g, i, none⟩ = some (.int .i64 (rd xs i)) := by
  have hn := (Kd.V_reads' h).1
  obtain ⟨ad, he, hc⟩ := Kd.at_int (Kd.V_reads' h).2.2 (i : Int) (by omega) (by omega)
  injection he with he
  subst he
  have hc' : W.cell? ⟨g, i, none⟩ = some (.int .i64 (rd xs i)) := by rw [Int.toNat_natCast, Addr.add_lit, Nat.zero_add] at hc; exact hc
  exact ⟨cell_lt hc', hc'⟩
/-- Texts in memory. -/
theorem texts_at {W : World} {ok : Nat → Prop} {g n c : Nat} {xs : List (List Int)} (h : Kd.V (Kd.slice 5 (Kd.int .u8)) 25 W 0 ok (.slice (some ⟨g, 0, none⟩) n c) xs) (i : Nat) (hi : i < xs.length) : g < W.heap.size ∧
    ∃ A m, W.cell? ⟨g, i, none⟩ = some (.slice A (rd_L3 xs i).length m) ∧ Kd.V (Kd.int .u8) 5 W 0 ok (.slice A (rd_L3 xs i).length m) (rd_L3 xs i) := by
  have hn := (Kd.V_reads' h).1
  obtain ⟨cs, hl, hK, hc⟩ := Kd.V_get h ([] : List Int) (i : Int) (by omega) (by omega)
  obtain ⟨A', m, rfl, hm, hF⟩ := Kd.FK_slice_open hK
  have h1 := hc 0 _ rfl
  have h2 : W.cell? ⟨g, i, none⟩ = some (.slice A' (rd_L3 xs i).length m) := by
    have e : (Int.toNat (i : Int)) * (Kd.slice 5 (Kd.int .u8)).sz + 0 = i := by
      have : (Kd.slice 5 (Kd.int .u8)).sz = 1 := rfl
      rw [this]; simp
    rw [e, Addr.add_lit, Nat.zero_add] at h1
    exact h1
  exact ⟨cell_lt h2, A', m, h2, Kd.V_mk hm hF⟩
end Go.Proofs.YtccnmbfigpjkaaaGreatDoor
