/-
  DERIVED. 'parse': a text's lines, one behind the other.
-/
import Derived.Test.YtccnmbfigpjkaaaGreatDoorWl
import Derived.Test.YtccnmbfigpjkaaaGreatDoorWm
namespace Go.Proofs.YtccnmbfigpjkaaaGreatDoor
open Go.RowKit Go.Shelf
open Scr

section
variable {α : Type} {m : Nat} {r : List (List UInt8)} {e : Int}
def EK (e : Int) : Prop := e = 3 ∨ e = 21 ∨ e = 22
theorem EK.ne (h : EK e) : ¬ e = 0 := by unfold EK at h; omega
theorem takeN_bad {f : Nat → List (List UInt8) → Out α} (h : takeN m r f = .bad e) (hf : ∀ n r, f n r = .bad e → EK e) : EK e := by
  unfold takeN at h
  split at h
  · exact hf _ _ h
  · cases h; exact .inl rfl
theorem takeT_bad {f : List Int → List (List UInt8) → Out α} (h : takeT r f = .bad e) (hf : ∀ n r, f n r = .bad e → EK e) : EK e := by
  unfold takeT at h
  split at h
  · exact hf _ _ h
  · cases h; exact .inl rfl
theorem fields_bad {k : List UInt8} (h : fields k r = .bad e) : EK e := by
  unfold fields at h
  repeat' split at h
  all_goals first
    | (cases h; done)
    | (cases h; exact .inr (.inl rfl))
    | (repeat (first | refine takeN_bad h (fun _ _ h => ?_) | refine takeT_bad h (fun _ _ h => ?_)))
  all_goals cases h
theorem actOf_bad (h : actOf r = .bad e) : EK e := by
  cases r with
  | nil => cases h; exact .inl rfl
  | cons k r => exact fields_bad h
theorem startOf_bad (h : startOf r = .bad e) : EK e := by
  cases r with
  | nil => cases h; exact .inl rfl
  | cons k r =>
    rw [startOf] at h
    by_cases hk : k = wWorld
    · rw [if_pos hk] at h
      refine takeN_bad h (fun _ _ h => takeN_bad h (fun _ _ h => takeN_bad h (fun _ _ h => takeN_bad h (fun _ _ h => takeT_bad h (fun _ _ h => takeT_bad h (fun _ _ h => ?_))))))
      cases h
    · rw [if_neg hk] at h
      cases h; exact .inr (.inl rfl)
end
theorem readOf_bad (t : List UInt8) : (readOf t).2 = 0 ∨ EK (readOf t).2 := by
  unfold readOf
  split
  · rename_i h; exact .inr (actOf_bad h)
  · exact .inl rfl
  · exact .inr (.inl rfl)
theorem beginOf_bad {t : List UInt8} {e : Int} (h : beginOf t = .bad e) : EK e := by
  unfold beginOf at h
  split at h
  · rename_i h'; cases h; exact startOf_bad h'
  · cases h
  · cases h; exact .inl rfl
theorem oneOf_bad {r : RdD} {s : List UInt8} {e : Int} (h : oneOf r s = .bad e) : EK e := by
  unfold oneOf lineOf sayOf at h
  repeat' split at h
  all_goals first | (cases h; done) | (cases h; exact .inr (.inr rfl)) | skip
  · cases h; rcases readOf_bad s.dropLast with h | h
    · contradiction
    · exact h
  · rename_i h'; cases h; exact beginOf_bad h'
theorem oneOf_acts {r r' : RdD} {s : List UInt8} (h : oneOf r s = .ok r') : r'.acts.length ≤ r.acts.length + 1 := by
  unfold oneOf lineOf sayOf at h
  repeat' split at h
  all_goals cases h
  all_goals simp
theorem runLines_acts : ∀ (ls : List (List UInt8)) (r r' : RdD) (n : Nat), runLines r n ls = .ok r' → r'.acts.length ≤ r.acts.length + ls.length
  | [], r, r', n, h => by cases h; simp
  | l :: ls, r, r', n, h => by
    unfold runLines at h
    split at h
    · cases h
    · rename_i q hq
      have h1 := oneOf_acts hq
      have h2 := runLines_acts ls q r' (n + 1) h
      simp only [List.length_cons]
      omega
theorem runLines_snoc {pre : List (List UInt8)} {x : List UInt8} {r q : RdD} (h : runLines rdZ 0 pre = .ok r) (hq : oneOf r x = .ok q) : runLines rdZ 0 (pre ++ [x]) = .ok q := by
  rw [runLines_append _ _ _ _ _ h, runLines, hq]; rfl
theorem runLines_stop {pre rest : List (List UInt8)} {x : List UInt8} {r : RdD} {e : Int} (h : runLines rdZ 0 pre = .ok r) (hq : oneOf r x = .bad e) : runLines rdZ 0 (pre ++ x :: rest) = .bad (pre.length + 1) e := by
  rw [runLines_append _ _ _ _ _ h, runLines, hq, Nat.zero_add]

theorem Rd.step {base rb : Nat} {W W1 : World} {r : RdD} {line : Int} {sv iv av : Value} {vs : List Value} (h : Rd base rb W r line sv iv av vs) (hs : W.heap.size ≤ W1.heap.size) (hr : W1.heap[rb]? = W.heap[rb]?) (hb : ∀ k, base ≤ k → k < W.heap.size → W1.heap[k]? = W.heap[k]?) : Rd base rb W1 r line sv iv av vs :=
  ⟨hr.trans h.blk, h.lt, Nat.le_trans h.size hs, h.seed.step (fun k h1 h2 _ => hb k h1 h2), h.image.step (fun k h1 h2 _ => hb k h1 h2), h.acts.step hb⟩
theorem Rd.line {base rb : Nat} {W : World} {r : RdD} {line : Int} {sv iv av : Value} {vs : List Value} (h : Rd base rb W r line sv iv av vs) (l : Int) : Rd base rb (W.setCell ⟨rb, 8, none⟩ (.int .i64 l)) r l sv iv av vs := by
  have hlt := h.lt
  have hb : ∀ k, base ≤ k → k < W.heap.size → (W.setCell ⟨rb, 8, none⟩ (.int .i64 l)).heap[k]? = W.heap[k]? := fun k hk _ => Below.heap_setCell _ _ _ _ (by show k ≠ rb; omega)
  exact ⟨setCell_heap h.blk, hlt, by have := h.size; simpa [World.setCell] using this, h.seed.step (fun k h1 h2 _ => hb k h1 h2), h.image.step (fun k h1 h2 _ => hb k h1 h2), h.acts.step hb⟩

/-- What 'parse' hands back. -/
def ParseP (w : World) (text : List UInt8) (e : Ending) (W : World) : Prop :=
  e = .returned (.pointer (some ⟨w.heap.size + 1, 0, none⟩)) ∧ Below w.heap.size w W ∧ match parseOf text with
    | .ok r => ∃ base sv iv av vs, Rd base (w.heap.size + 1) W r 0 sv iv av vs
    | .bad n e => RdE (w.heap.size + 1) W n e

theorem cell_of_box {W : World} {B : Nat} {v : Value} {t : TypeId} (h : W.heap[B]? = some (.cells #[v] t (0, 0))) : W.cell? ⟨B, 0, none⟩ = some v := by simp [World.cell?, h]
theorem frozen_of_box {W : World} {B : Nat} {v : Value} {t : TypeId} (h : W.heap[B]? = some (.cells #[v] t (0, 0))) : W.frozen? ⟨B, 0, none⟩ = false := by simp [World.frozen?, h]
theorem parse_res {tmps : Array Value} {W : World} {q rb : Nat} (h2 : tmps[2]? = some (.pointer (some ⟨q, 0, none⟩))) (c0 : W.cell? ⟨q, 0, none⟩ = some (.pointer (some ⟨rb, 0, none⟩))) :
    (results Tryz.f9 tmps).run Tryz.prog W = .ok (.pointer (some ⟨rb, 0, none⟩)) W := by
  simp [results, Tryz.results9, go_sem, h2, c0]

/-- What 'parse' lays: its result's cell, the reader, the reader's variable. -/
structure Lay (w W : World) (res : Option Addr) : Prop where
  res : W.heap[w.heap.size]? = some (.cells #[.pointer res] 35 (0, 0))
  var : W.heap[w.heap.size + 2]? = some (.cells #[.pointer (some ⟨w.heap.size + 1, 0, none⟩)] 35 (0, 0))
  below : Below w.heap.size w W

theorem parse_lay (w : World) (v r : Value) (cs : Array Value) (W : World) (hW : ((w.alloc (.cells #[v] 35)).alloc (.cells cs 41)).alloc (.cells #[r] 35) = W) :
    W.heap[w.heap.size]? = some (.cells #[v] 35 (0, 0)) ∧ W.heap[w.heap.size + 1]? = some (.cells cs 41 (0, 0)) ∧ W.heap[w.heap.size + 2]? = some (.cells #[r] 35 (0, 0)) ∧ Below w.heap.size w W ∧ W.heap.size = w.heap.size + 3 := by
  subst hW
  refine ⟨?_, ?_, ?_, (((Below.refl _ w).alloc (Nat.le_refl _) _).alloc (by simp) _).alloc (by simp; omega) _, by simp⟩
  · rw [Below.heap_alloc _ _ _ (by simp; omega), Below.heap_alloc _ _ _ (by simp)]; exact World.alloc_heap_new _ _
  · rw [Below.heap_alloc _ _ _ (by simp)]; have := World.alloc_heap_new (w.alloc (.cells #[v] 35)) (.cells cs 41); rwa [World.size_alloc] at this
  · have := World.alloc_heap_new ((w.alloc (.cells #[v] 35)).alloc (.cells cs 41)) (.cells #[r] 35); rwa [World.size_alloc, World.size_alloc] at this

set_option maxRecDepth 100000 in
set_option maxHeartbeats 1000000 in
theorem parse_long (text : ByteArray) (w : World) (hs : text.size ≤ 1000000) (hc : (1000 : Int) < Lib.countByte text.data.toList 10) :
    Calls Tryz.prog 9 #[.string text] w (ParseP w text.data.toList) := by
  have hl : ¬ (1048576 : Int) < text.size := by omega
  go_enter Tryz.func9, Tryz.ntmps9
  go_wp2_with (go_at_call 18; refine (Tryz.strings_Count_one text 10 _).mono ?_; rintro e w' ⟨rfl, rfl⟩)
  generalize hW : ((w.alloc (.cells #[.pointer (some ⟨w.heap.size + 1, 0, none⟩)] 35)).alloc _).alloc _ = W
  obtain ⟨h0, h1, h2, hB, _⟩ := parse_lay _ _ _ _ _ hW
  clear hW
  refine bodyPost_ret (parse_res rfl (cell_of_box h0)) rfl ⟨rfl, hB, ?_⟩
  have : 1000 < Lib.countByte text.data.toList 10 := by omega
  rw [parseOf, if_pos this]
  exact RdE.of h1

end Go.Proofs.YtccnmbfigpjkaaaGreatDoor
