/-
  DERIVED. '(*reader).one': a line, for every line of at most 2^31 bytes and every state of the reader without an error.
  DERIVED. '(*reader).one': the first line that says something; a line that is an act's.
  DERIVED. '(*reader).one': a line that is an act's.
-/
import Derived.Test.YtccnmbfigpjkaaaGreatDoorWi
import Derived.Deep.RegionLaw
import Derived.RegionTactic
import Derived.BigRegion
import Derived.Deep.RegionHeld3
import Derived.RangeFuncBox
namespace Go.Proofs.YtccnmbfigpjkaaaGreatDoor
open Go.RowKit Go.Sort Go.Proofs.YtccnmbfigpjkaaaGreatDoorW.PrintWords
open Scr

/-- Bytes that lie from base on, not in the row of the acts. -/
def Dat (base : Nat) (W : World) (av v : Value) (xs : List Int) : Prop := Kd.V (Kd.int .u8) 5 W 0 (fun k => base ≤ k ∧ some k ≠ av.ownBlock) v xs
abbrev actCells (a : ActD) (v : Value) : List Value := [.int .u8 a.kind, .int .u8 a.mode, .int .i64 a.p, .int .i64 a.n, .int .u64 a.version, v]
def rows : List ActD → List Value → List Value
  | a :: ys, v :: vs => actCells a v ++ rows ys vs
  | _, _ => []
/-- The acts, in a row of the call's own. -/
structure ActsR (base : Nat) (W : World) (av : Value) (acts : List ActD) (vs : List Value) : Prop where
  len : vs.length = acts.length
  own : W.ownsRow base 49 6 av acts.length (rows acts vs)
  dat : ∀ (i : Nat) (a : ActD) (v : Value), acts[i]? = some a → vs[i]? = some v → Dat base W av v a.data

section
variable {base : Nat} {W W1 : World} {av av1 v : Value} {xs : List Int} {acts : List ActD} {vs : List Value}
theorem rows_snoc : ∀ {acts : List ActD} {vs : List Value} (a : ActD) (v : Value), vs.length = acts.length → rows (acts ++ [a]) (vs ++ [v]) = rows acts vs ++ actCells a v
  | [], [], a, v, _ => by simp [rows]
  | [], _ :: _, a, v, h => by simp at h
  | _ :: _, [], a, v, h => by simp at h
  | _ :: _, _ :: _, a, v, h => by
    simp only [List.cons_append, rows]
    rw [rows_snoc a v (by simpa using h), List.append_assoc]
theorem Dat.step (h : Dat base W av v xs) (hk : ∀ k, base ≤ k → k < W.heap.size → some k ≠ av.ownBlock → W1.heap[k]? = W.heap[k]?) : Dat base W1 av v xs := Kd.V_step h (fun k ho hlt => hk k ho.1 hlt ho.2)
/-- The acts' row has grown. -/
theorem Dat.turn (h : Dat base W av v xs) (hg : W.grownBy W1 av.ownBlock) (hat : av1.ownBlock = av.ownBlock ∨ ∃ b, av1.ownBlock = some b ∧ W.heap.size ≤ b) : Dat base W1 av1 v xs := by
  have h1 := Kd.V_bound h
  have h2 := Kd.V_step (w1 := W1) h1 (fun k ho hlt => hg.block k hlt ho.1.2)
  refine Kd.V_mono h2 (fun k hk => ⟨hk.1.1, ?_⟩)
  rcases hat with e | ⟨b, e, hb⟩
  · rw [e]; exact hk.1.2
  · rw [e]; intro he; injection he with he; omega
theorem ActsR.step (h : ActsR base W av acts vs) (hk : ∀ k, base ≤ k → k < W.heap.size → W1.heap[k]? = W.heap[k]?) : ActsR base W1 av acts vs :=
  ⟨h.len, own_move h.own (fun k e => hk k (own_base h.own k e) (own_lt h.own k e)), fun i a v ha hv => (h.dat i a v ha hv).step (fun k hb hlt _ => hk k hb hlt)⟩
theorem ActsR.snoc (h : ActsR base W av acts vs) {a : ActD} {v : Value} (hd : Dat base W1 av1 v a.data) (hown : W1.ownsRow base 49 6 av1 (acts.length + 1) (rows acts vs ++ actCells a v)) (hg : W.grownBy W1 av.ownBlock)
    (hat : av1.ownBlock = av.ownBlock ∨ ∃ b, av1.ownBlock = some b ∧ W.heap.size ≤ b) : ActsR base W1 av1 (acts ++ [a]) (vs ++ [v]) := by
  refine ⟨by simp [h.len], by rw [rows_snoc a v h.len, List.length_append]; exact hown, fun i b u hb hu => ?_⟩
  rcases Nat.lt_or_ge i acts.length with hi | hi
  · rw [List.getElem?_append_left hi] at hb
    rw [List.getElem?_append_left (by rw [h.len]; exact hi)] at hu
    exact (h.dat i b u hb hu).turn hg hat
  · rw [List.getElem?_append_right hi] at hb
    rw [List.getElem?_append_right (by rw [h.len]; exact hi), h.len] at hu
    have hi0 : i - acts.length = 0 := by have := (List.getElem?_eq_some_iff.1 hb).1; simp at this; omega
    rw [hi0] at hb hu
    simp only [List.getElem?_cons_zero, Option.some.injEq] at hb hu
    subst hb; subst hu
    exact hd
end

/-- The reader in block rb, without an error. -/
structure Rd (base rb : Nat) (W : World) (r : RdD) (line : Int) (sv iv av : Value) (vs : List Value) : Prop where
  blk : W.heap[rb]? = some (.cells #[.int .i64 r.x.sector, .int .i64 r.x.block, .int .i64 r.x.slot, sv, iv, .int .u64 r.x.version, av, .bool r.begun, .int .i64 line, .int .i64 0] 41 (0, 0))
  lt : rb < base
  size : base ≤ W.heap.size
  seed : Dat base W av sv r.x.seed
  image : Dat base W av iv r.x.image
  acts : ActsR base W av r.acts vs
/-- The reader with an error. -/
def RdE (rb : Nat) (W : World) (line e : Int) : Prop := ∃ cs, W.heap[rb]? = some (.cells cs 41 (0, 0)) ∧ cs.size = 10 ∧ cs[8]? = some (.int .i64 line) ∧ cs[9]? = some (.int .i64 e)
/-- Of what lay below base all but the reader is as it was. -/
structure Frm (base rb : Nat) (w w' : World) : Prop where
  os : w'.os = w.os
  tape : w'.tape = w.tape
  output : w'.output = w.output
  size : w.heap.size ≤ w'.heap.size
  block : ∀ k, k < base → k ≠ rb → w'.heap[k]? = w.heap[k]?

def OneP (base rb : Nat) (w : World) (o : Step) (line : Int) (e : Ending) (w' : World) : Prop :=
  e = .returned (.tuple #[]) ∧ Frm base rb w w' ∧ match o with
    | .ok r => ∃ sv iv av vs, Rd base rb w' r line sv iv av vs
    | .bad n => RdE rb w' line n

theorem Frm.refl (base rb : Nat) (w : World) : Frm base rb w w := ⟨rfl, rfl, rfl, Nat.le_refl _, fun _ _ _ => rfl⟩
theorem Frm.trans {base rb : Nat} {a b c : World} (h : Frm base rb a b) (k : Frm base rb b c) : Frm base rb a c :=
  ⟨k.os.trans h.os, k.tape.trans h.tape, k.output.trans h.output, Nat.le_trans h.size k.size, fun i hi hr => (k.block i hi hr).trans (h.block i hi hr)⟩
theorem Frm.of_below {base rb : Nat} {a b : World} (h : Below base a b) : Frm base rb a b := ⟨h.os, h.tape, h.output, h.size, fun i hi _ => h.block i hi⟩
theorem Frm.set {base rb : Nat} (w : World) (o : Nat) (u : Value) : Frm base rb w (w.setCell ⟨rb, o, none⟩ u) := ⟨rfl, rfl, rfl, by simp [World.setCell], fun i _ hr => Below.heap_setCell _ _ _ _ hr⟩
theorem Frm.glb {base rb : Nat} {a b : World} (h : Frm base rb a b) (hg : Glb a) (hr : 8 ≤ rb) (hb : 8 ≤ base) : Glb b := hg.of_blocks h.size (fun k hk => h.block k (by omega) (by omega))

/-- Ten cells, by the block. -/
theorem cells10 {W : World} {q : Nat} {x0 x1 x2 x3 x4 x5 x6 x7 x8 x9 : Value} {t : TypeId} (h : W.heap[q]? = some (.cells #[x0, x1, x2, x3, x4, x5, x6, x7, x8, x9] t (0, 0))) :
    (W.cell? ⟨q, 0, none⟩ = some x0 ∧ W.cell? ⟨q, 1, none⟩ = some x1 ∧ W.cell? ⟨q, 2, none⟩ = some x2 ∧ W.cell? ⟨q, 3, none⟩ = some x3 ∧ W.cell? ⟨q, 4, none⟩ = some x4 ∧ W.cell? ⟨q, 5, none⟩ = some x5 ∧ W.cell? ⟨q, 6, none⟩ = some x6 ∧ W.cell? ⟨q, 7, none⟩ = some x7 ∧ W.cell? ⟨q, 8, none⟩ = some x8 ∧ W.cell? ⟨q, 9, none⟩ = some x9) ∧
    (W.frozen? ⟨q, 0, none⟩ = false ∧ W.frozen? ⟨q, 1, none⟩ = false ∧ W.frozen? ⟨q, 2, none⟩ = false ∧ W.frozen? ⟨q, 3, none⟩ = false ∧ W.frozen? ⟨q, 4, none⟩ = false ∧ W.frozen? ⟨q, 5, none⟩ = false ∧ W.frozen? ⟨q, 6, none⟩ = false ∧ W.frozen? ⟨q, 7, none⟩ = false ∧ W.frozen? ⟨q, 8, none⟩ = false ∧ W.frozen? ⟨q, 9, none⟩ = false) := by
  simp [World.cell?, World.frozen?, h]

theorem head_facts {u : ByteArray} {c : UInt8} {t : List UInt8} (h : u.data.toList = c :: t) : u.toList.isEmpty = false ∧ 0 < u.size ∧ (∀ h : 0 < u.size, u[0]'h = c) ∧ ¬ u.toList = [] := by
  have hn : ¬ u.data.toList = [] := by rw [h]; exact List.cons_ne_nil _ _
  refine ⟨ne_empty hn, by rw [← size_list, h]; simp, fun h0 => ?_, by rw [ByteArray.toList_eq]; exact hn⟩
  have : u[0]'h0 = u.data.toList[0]'h0 := rfl
  rw [this]
  simp only [h, List.getElem_cons_zero]
theorem suffix_iff (l : List UInt8) : Lib.hasSuffix l [10] = true ↔ l.getLast? = some 10 := by
  unfold Lib.hasSuffix
  rw [List.isSuffixOf_iff_suffix, List.getLast?_eq_some_iff]
  constructor
  · rintro ⟨t, ht⟩; exact ⟨t, ht.symm⟩
  · rintro ⟨t, ht⟩; exact ⟨t, ht.symm⟩
theorem cut_no (s : ByteArray) (w : World) (hs : s.size ≤ 2147483648) (h : ¬ s.data.toList.getLast? = some 10) :
    Calls Tryz.prog 52 #[.string s, .string ⟨#[10]⟩] w fun e w' => e = .returned (.tuple #[.string s, .bool false]) ∧ w = w' := by
  have hx : Lib.hasSuffix s.data.toList [10] = false := by
    cases hh : Lib.hasSuffix s.data.toList [10] with
    | false => rfl
    | true => exact absurd ((suffix_iff _).1 hh) h
  refine (Tryz.strings_CutSuffix s _ w (by omega)).mono fun e w' ⟨he, hw⟩ => ⟨?_, hw.symm⟩
  rw [he]
  show Ending.returned (.tuple #[.string ⟨(Lib.trimSuffix s.data.toList [10]).toArray⟩, .bool (Lib.hasSuffix s.data.toList [10])]) = _
  rw [Lib.trimSuffix, hx]
  simp
theorem cut_yes (s : ByteArray) (w : World) (hs : s.size ≤ 2147483648) (h : s.data.toList.getLast? = some 10) :
    Calls Tryz.prog 52 #[.string s, .string ⟨#[10]⟩] w fun e w' => ∃ u : ByteArray, u.data.toList = s.data.toList.dropLast ∧ e = .returned (.tuple #[.string u, .bool true]) ∧ w = w' := by
  have hx := (suffix_iff _).2 h
  refine (Tryz.strings_CutSuffix s _ w (by omega)).mono fun e w' ⟨he, hw⟩ => ⟨⟨s.data.toList.dropLast.toArray⟩, by simp, ?_, hw.symm⟩
  rw [he]
  show Ending.returned (.tuple #[.string ⟨(Lib.trimSuffix s.data.toList [10]).toArray⟩, .bool (Lib.hasSuffix s.data.toList [10])]) = _
  rw [Lib.trimSuffix, hx, if_pos rfl, List.dropLast_eq_take]
  rfl

theorem RdE.of {rb : Nat} {W : World} {x0 x1 x2 x3 x4 x5 x6 x7 : Value} {line e : Int} (h : W.heap[rb]? = some (.cells #[x0, x1, x2, x3, x4, x5, x6, x7, .int .i64 line, .int .i64 e] 41 (0, 0))) : RdE rb W line e := ⟨_, h, rfl, rfl, rfl⟩

set_option maxRecDepth 100000 in
theorem one_cut (base rb : Nat) (s : ByteArray) (w : World) (r : RdD) (line : Int) (sv iv av : Value) (vs : List Value) (hR : Rd base rb w r line sv iv av vs) (hs : s.size ≤ 2147483648) (h : ¬ s.data.toList.getLast? = some 10) :
    Calls Tryz.prog 20 #[.pointer (some ⟨rb, 0, none⟩), .string s] w (OneP base rb w (.bad 22) line) := by
  have HH := Lib.hid h
  clear h
  obtain ⟨⟨_, _, _, _, _, _, _, _, _, c9⟩, _, _, _, _, _, _, _, _, _, f9⟩ := cells10 hR.blk
  go_enter Tryz.func20, Tryz.ntmps20
  go_wp2_with (go_at_call 52; refine (cut_no s _ hs HH.out).mono ?_; rintro e w' ⟨rfl, rfl⟩)
  go_end0
  exact ⟨rfl, Frm.set _ _ _, RdE.of (setCell_heap hR.blk)⟩

set_option maxRecDepth 100000 in
theorem one_empty (base rb : Nat) (s : ByteArray) (w : World) (r : RdD) (line : Int) (sv iv av : Value) (vs : List Value) (hR : Rd base rb w r line sv iv av vs) (hs : s.size ≤ 2147483648) (h : s.data.toList.getLast? = some 10) (h0 : s.data.toList.dropLast = []) :
    Calls Tryz.prog 20 #[.pointer (some ⟨rb, 0, none⟩), .string s] w (OneP base rb w (.ok r) line) := by
  have HH := Lib.hid h
  have H0 := Lib.hid h0
  clear h h0
  go_enter Tryz.func20, Tryz.ntmps20
  go_wp2_with (go_at_call 52; refine (cut_yes s _ hs HH.out).mono ?_; rintro e w' ⟨u, hu, rfl, rfl⟩; rw [H0.out] at hu; have hu1 : u.toList = [] := tl hu; clear hu)
  go_end0
  exact ⟨rfl, Frm.refl _ _ _, sv, iv, av, vs, hR⟩

set_option maxRecDepth 100000 in
theorem one_hash (base rb : Nat) (s : ByteArray) (w : World) (r : RdD) (line : Int) (sv iv av : Value) (vs : List Value) (hR : Rd base rb w r line sv iv av vs) (hs : s.size ≤ 2147483648) (h : s.data.toList.getLast? = some 10) (t : List UInt8) (h0 : s.data.toList.dropLast = 35 :: t) :
    Calls Tryz.prog 20 #[.pointer (some ⟨rb, 0, none⟩), .string s] w (OneP base rb w (.ok r) line) := by
  have HH := Lib.hid h
  have H0 := Lib.hid h0
  clear h h0
  go_enter Tryz.func20, Tryz.ntmps20
  go_wp2_with (go_at_call 52; refine (cut_yes s _ hs HH.out).mono ?_; rintro e w' ⟨u, hu, rfl, rfl⟩; rw [H0.out] at hu; obtain ⟨k1, k2, k3, k4⟩ := head_facts hu; clear hu)
  go_end0
  exact ⟨rfl, Frm.refl _ _ _, sv, iv, av, vs, hR⟩
end Go.Proofs.YtccnmbfigpjkaaaGreatDoor

namespace Go.Proofs.YtccnmbfigpjkaaaGreatDoor
open Go.RowKit Go.Sort Go.Proofs.YtccnmbfigpjkaaaGreatDoorW.PrintWords
open Scr

/-- What is ahead of a line that says something. -/
structure Says (u : ByteArray) : Prop where
  a : u.toList.isEmpty = false
  b : 0 < u.size
  c : ¬ u.toList = []
theorem says_of {s u : ByteArray} (hu : u.data.toList = s.data.toList.dropLast) (hs : s.size ≤ 2147483648) : u.size ≤ 2147483648 := by
  rw [← size_list, hu, List.length_dropLast, size_list]; omega

/-- The six cells of the start, and the error. -/
abbrev sets7 (W : World) (q : Nat) (a b c : Value) (sv iv v e : Value) : World :=
  ((((((W.setCell ⟨q, 0, none⟩ a).setCell ⟨q, 1, none⟩ b).setCell ⟨q, 2, none⟩ c).setCell ⟨q, 3, none⟩ sv).setCell ⟨q, 4, none⟩ iv).setCell ⟨q, 5, none⟩ v).setCell ⟨q, 9, none⟩ e
theorem sets7_heap {W : World} {q : Nat} {x0 x1 x2 x3 x4 x5 x6 x7 x8 x9 a b c sv iv v e : Value} {t : TypeId} (h : W.heap[q]? = some (.cells #[x0, x1, x2, x3, x4, x5, x6, x7, x8, x9] t (0, 0))) :
    (sets7 W q a b c sv iv v e).heap[q]? = some (.cells #[a, b, c, sv, iv, v, x6, x7, x8, e] t (0, 0)) := by
  have := setCell_heap (o := 9) (u := e) (setCell_heap (o := 5) (u := v) (setCell_heap (o := 4) (u := iv) (setCell_heap (o := 3) (u := sv) (setCell_heap (o := 2) (u := c) (setCell_heap (o := 1) (u := b) (setCell_heap (o := 0) (u := a) h))))))
  simpa using this
theorem sets7_other {W : World} {q k : Nat} {a b c sv iv v e : Value} (h : k ≠ q) : (sets7 W q a b c sv iv v e).heap[k]? = W.heap[k]? := by
  simp only [sets7]
  rw [Below.heap_setCell _ _ _ _ h, Below.heap_setCell _ _ _ _ h, Below.heap_setCell _ _ _ _ h, Below.heap_setCell _ _ _ _ h, Below.heap_setCell _ _ _ _ h, Below.heap_setCell _ _ _ _ h, Below.heap_setCell _ _ _ _ h]
theorem sets7_frm (base : Nat) (W : World) (q : Nat) (a b c sv iv v e : Value) : Frm base q W (sets7 W q a b c sv iv v e) :=
  ((((((Frm.set W 0 a).trans (Frm.set _ 1 b)).trans (Frm.set _ 2 c)).trans (Frm.set _ 3 sv)).trans (Frm.set _ 4 iv)).trans (Frm.set _ 5 v)).trans (Frm.set _ 9 e)
theorem sets7_size (W : World) (q : Nat) (a b c sv iv v e : Value) : (sets7 W q a b c sv iv v e).heap.size = W.heap.size := by simp [sets7, World.setCell]

theorem ne35 {ch : UInt8} (h : ¬ ch = 35) : ((ch.toNat : Int) == 35) = false := by
  rw [beq_eq_false_iff_ne]; intro e
  exact h (UInt8.toNat_inj.1 (by simpa using Int.ofNat.inj e))
set_option maxRecDepth 100000 in
set_option maxHeartbeats 1000000 in
theorem one_begin_ok (base rb : Nat) (s : ByteArray) (w : World) (r : RdD) (line : Int) (sv iv av : Value) (vs : List Value) (hR : Rd base rb w r line sv iv av vs) (hG : Glb w) (hrb : 8 ≤ rb) (hs : s.size ≤ 2147483648) (h : s.data.toList.getLast? = some 10) (ch : UInt8) (t : List UInt8) (h0 : s.data.toList.dropLast = ch :: t)
    (h35 : ¬ ch = 35) (hb : r.begun = false) (x : StartD) (hx : beginOf s.data.toList.dropLast = .ok x) :
    Calls Tryz.prog 20 #[.pointer (some ⟨rb, 0, none⟩), .string s] w (OneP base rb w (.ok { r with x := x, begun := true }) line) := by
  have HH := Lib.hid h
  have H0 := Lib.hid h0
  have HX := Lib.hid hx
  have n35 := ne35 h35
  clear h h0 h35 hx
  have hblk := hR.blk
  rw [hb] at hblk
  have hlt := hR.lt
  have hsz := hR.size
  have hav : ∀ k, w.heap.size ≤ k → some k ≠ av.ownBlock := fun k hk e => by have := own_lt hR.acts.own k e.symm; omega
  have HAV := Lib.hid hav
  have hG1 : Glb (w.setCell ⟨rb, 7, none⟩ (.bool true)) := (Frm.set (base := base) w 7 (.bool true)).glb hG hrb (by omega)
  obtain ⟨⟨c0, c1, c2, c3, c4, c5, _, c7, _, c9⟩, f0, f1, f2, f3, f4, f5, _, f7, _, f9⟩ := cells10 hblk
  clear hav
  go_enter Tryz.func20, Tryz.ntmps20
  go_wp2_with (go_at_call 52; refine (cut_yes s _ hs HH.out).mono ?_; rintro e w' ⟨u, hu, rfl, rfl⟩; have hus := says_of hu hs; have HU := Lib.hid hu; rw [H0.out] at hu; obtain ⟨k1, k2, k3, k4⟩ := head_facts hu; clear hu)
  refine (begin_any u _ hG1 hus).mono ?_
  intro e w2 hp
  rw [HU.out, HX.out] at hp
  obtain ⟨sv2, iv2, rfl, hs2, hi2, hb2⟩ := hp
  obtain ⟨A1, m1, rfl⟩ := Kd.V_slice hs2
  obtain ⟨A2, m2, rfl⟩ := Kd.V_slice hi2
  have hz : (w.setCell ⟨rb, 7, none⟩ (.bool true)).heap.size = w.heap.size := by simp [World.setCell]
  rw [hz] at hb2
  replace hs2 : Kd.V (Kd.int .u8) 5 w2 0 (fun k => w.heap.size ≤ k) _ x.seed := Kd.V_mono hs2 (fun k hk => by rw [← hz]; exact hk)
  replace hi2 : Kd.V (Kd.int .u8) 5 w2 0 (fun k => w.heap.size ≤ k) _ x.image := Kd.V_mono hi2 (fun k hk => by rw [← hz]; exact hk)
  have hs2z := hb2.size
  rw [hz] at hs2z
  have hblk2 : w2.heap[rb]? = some (.cells #[.int .i64 r.x.sector, .int .i64 r.x.block, .int .i64 r.x.slot, sv, iv, .int .u64 r.x.version, av, .bool true, .int .i64 line, .int .i64 0] 41 (0, 0)) := (hb2.block rb (by omega)).trans (by rw [setCell_heap hblk]; rfl)
  clear c0 c1 c2 c3 c4 c5 c7 c9 f0 f1 f2 f3 f4 f5 f7 f9 hz
  obtain ⟨⟨c0, c1, c2, c3, c4, c5, _, _, _, c9⟩, f0, f1, f2, f3, f4, f5, _, _, _, f9⟩ := cells10 hblk2
  go_wp2
  have hav := HAV.out
  go_end0
  refine ⟨rfl, ((Frm.set _ 7 _).trans (Frm.of_below (hb2.mono hsz))).trans (sets7_frm _ _ _ _ _ _ _ _ _ _), _, _, av, vs, sets7_heap hblk2, hR.lt, by rw [sets7_size]; omega, ?_, ?_, ?_⟩
  · exact Kd.V_mono (Kd.V_step hs2 (fun k ho _ => sets7_other (by omega))) (fun k hk => ⟨by omega, hav k hk⟩)
  · exact Kd.V_mono (Kd.V_step hi2 (fun k ho _ => sets7_other (by omega))) (fun k hk => ⟨by omega, hav k hk⟩)
  · exact hR.acts.step (fun k hk hlt => (sets7_other (by omega)).trans ((hb2.block k (by omega)).trans (Below.heap_setCell _ _ _ _ (by show k ≠ rb; omega))))

set_option maxRecDepth 100000 in
set_option maxHeartbeats 1000000 in
theorem one_begin_bad (base rb : Nat) (s : ByteArray) (w : World) (r : RdD) (line : Int) (sv iv av : Value) (vs : List Value) (hR : Rd base rb w r line sv iv av vs) (hG : Glb w) (hrb : 8 ≤ rb) (hs : s.size ≤ 2147483648) (h : s.data.toList.getLast? = some 10) (ch : UInt8) (t : List UInt8) (h0 : s.data.toList.dropLast = ch :: t)
    (h35 : ¬ ch = 35) (hb : r.begun = false) (n : Int) (hx : beginOf s.data.toList.dropLast = .bad n) :
    Calls Tryz.prog 20 #[.pointer (some ⟨rb, 0, none⟩), .string s] w (OneP base rb w (.bad n) line) := by
  have HH := Lib.hid h
  have H0 := Lib.hid h0
  have HX := Lib.hid hx
  have n35 := ne35 h35
  clear h h0 h35 hx
  have hblk := hR.blk
  rw [hb] at hblk
  have hlt := hR.lt
  have hsz := hR.size
  have hav : ∀ k, w.heap.size ≤ k → some k ≠ av.ownBlock := fun k hk e => by have := own_lt hR.acts.own k e.symm; omega
  have HAV := Lib.hid hav
  have hG1 : Glb (w.setCell ⟨rb, 7, none⟩ (.bool true)) := (Frm.set (base := base) w 7 (.bool true)).glb hG hrb (by omega)
  obtain ⟨⟨c0, c1, c2, c3, c4, c5, _, c7, _, c9⟩, f0, f1, f2, f3, f4, f5, _, f7, _, f9⟩ := cells10 hblk
  clear hav
  go_enter Tryz.func20, Tryz.ntmps20
  go_wp2_with (go_at_call 52; refine (cut_yes s _ hs HH.out).mono ?_; rintro e w' ⟨u, hu, rfl, rfl⟩; have hus := says_of hu hs; have HU := Lib.hid hu; rw [H0.out] at hu; obtain ⟨k1, k2, k3, k4⟩ := head_facts hu; clear hu)
  refine (begin_any u _ hG1 hus).mono ?_
  intro e w2 hp
  rw [HU.out, HX.out] at hp
  obtain ⟨a1, b1, d1, sv2, iv2, v1, rfl, ⟨A1, l1, m1, rfl⟩, ⟨A2, l2, m2, rfl⟩, hb2⟩ := hp
  have hz : (w.setCell ⟨rb, 7, none⟩ (.bool true)).heap.size = w.heap.size := by simp [World.setCell]
  rw [hz] at hb2
  have hs2z := hb2.size
  rw [hz] at hs2z
  have hblk2 : w2.heap[rb]? = some (.cells #[.int .i64 r.x.sector, .int .i64 r.x.block, .int .i64 r.x.slot, sv, iv, .int .u64 r.x.version, av, .bool true, .int .i64 line, .int .i64 0] 41 (0, 0)) := (hb2.block rb (by omega)).trans (by rw [setCell_heap hblk]; rfl)
  clear c0 c1 c2 c3 c4 c5 c7 c9 f0 f1 f2 f3 f4 f5 f7 f9 hz
  obtain ⟨⟨c0, c1, c2, c3, c4, c5, _, _, _, c9⟩, f0, f1, f2, f3, f4, f5, _, _, _, f9⟩ := cells10 hblk2
  go_wp2
  have hav := HAV.out
  go_end0
  exact ⟨rfl, ((Frm.set _ 7 _).trans (Frm.of_below (hb2.mono hsz))).trans (sets7_frm _ _ _ _ _ _ _ _ _ _), RdE.of (sets7_heap hblk2)⟩

end Go.Proofs.YtccnmbfigpjkaaaGreatDoor

namespace Go.Proofs.YtccnmbfigpjkaaaGreatDoor
open Go.RowKit Go.Sort Go.Proofs.YtccnmbfigpjkaaaGreatDoorW.PrintWords
open Scr

theorem infoAct : (Tryz.prog.info? 49).map (fun i => (i.zero, i.size, i.bytes)) = some (some (.agg #[.int .u8 0, .int .u8 0, .int .i64 0, .int .i64 0, .int .u64 0, .slice none 0 0]), 6, 56) := by kernel_rfl

theorem actCells_one (a : ActD) (A : Option Addr) (n c : Nat) : ∀ u ∈ actCells a (.slice A n c), u.oneCell' = true := by
  intro u hu
  simp only [List.mem_cons, List.not_mem_nil, or_false] at hu
  rcases hu with rfl | rfl | rfl | rfl | rfl | rfl <;> rfl
/-- What comes of an act's line. -/
def actStep (r : RdD) (a : ActD) (n : Int) : Step := if n = 0 then .ok { r with acts := r.acts ++ [a] } else .bad n

theorem one_close {base rb : Nat} {w W3 w1 : World} {r : RdD} {line n : Int} {sv iv av v1 dv : Value} {vs : List Value} {a : ActD} (hR : Rd base rb w r line sv iv av vs) (hb : r.begun = true) (hb3 : Below w.heap.size w W3)
    (hd3 : Kd.V (Kd.int .u8) 5 W3 0 (fun k => w.heap.size ≤ k) dv a.data)
    (hown1 : w1.ownsRow base 49 6 v1 (r.acts.length + 1) (rows r.acts vs ++ actCells a dv)) (hg1 : W3.grownBy w1 av.ownBlock) (hat1 : v1.ownBlock = av.ownBlock ∨ ∃ b, v1.ownBlock = some b ∧ W3.heap.size ≤ b) (hB1 : Below base W3 w1)
    (hblk4 : w1.heap[rb]? = some (.cells #[.int .i64 r.x.sector, .int .i64 r.x.block, .int .i64 r.x.slot, sv, iv, .int .u64 r.x.version, av, .bool true, .int .i64 line, .int .i64 0] 41 (0, 0))) :
    OneP base rb w (actStep r a n) line (.returned (.tuple #[])) ((w1.setCell ⟨rb, 6, none⟩ v1).setCell ⟨rb, 9, none⟩ (.int .i64 n)) := by
  have hlt := hR.lt
  have hsz := hR.size
  have hs3 := hb3.size
  have hs1 := hg1.size
  have hblk5 : ((w1.setCell ⟨rb, 6, none⟩ v1).setCell ⟨rb, 9, none⟩ (.int .i64 n)).heap[rb]? = some (.cells #[.int .i64 r.x.sector, .int .i64 r.x.block, .int .i64 r.x.slot, sv, iv, .int .u64 r.x.version, v1, .bool true, .int .i64 line, .int .i64 n] 41 (0, 0)) := by
    rw [setCell_heap (setCell_heap hblk4)]; rfl
  have hoth : ∀ k, k ≠ rb → ((w1.setCell ⟨rb, 6, none⟩ v1).setCell ⟨rb, 9, none⟩ (.int .i64 n)).heap[k]? = w1.heap[k]? := fun k hk => (Below.heap_setCell _ _ _ _ hk).trans (Below.heap_setCell _ _ _ _ hk)
  have hfsz : ((w1.setCell ⟨rb, 6, none⟩ v1).setCell ⟨rb, 9, none⟩ (.int .i64 n)).heap.size = w1.heap.size := by simp [World.setCell]
  have hF : Frm base rb w ((w1.setCell ⟨rb, 6, none⟩ v1).setCell ⟨rb, 9, none⟩ (.int .i64 n)) := (((Frm.of_below (hb3.mono hsz)).trans (Frm.of_below hB1)).trans (Frm.set w1 6 v1)).trans (Frm.set _ 9 (.int .i64 n))
  generalize (w1.setCell ⟨rb, 6, none⟩ v1).setCell ⟨rb, 9, none⟩ (.int .i64 n) = Wf at hblk5 hoth hfsz hF ⊢
  refine ⟨rfl, hF, ?_⟩
  unfold actStep
  by_cases hn : n = 0
  · subst hn
    rw [if_pos rfl]
    have hav : ∀ k, w.heap.size ≤ k → some k ≠ av.ownBlock := fun k hk e => by have := own_lt hR.acts.own k e.symm; omega
    have hdn : Dat base W3 av dv a.data := Kd.V_mono hd3 (fun k hk => ⟨by omega, hav k hk⟩)
    have hA : ActsR base w1 v1 (r.acts ++ [a]) (vs ++ [dv]) := (hR.acts.step (W1 := W3) (fun k hk hlt => hb3.block k hlt)).snoc (hdn.turn hg1 hat1) hown1 hg1 hat1
    have hS : ∀ {u : Value} {xs : List Int}, Dat base w av u xs → Dat base Wf v1 u xs := fun h =>
      ((h.step (W1 := W3) (fun k hk hlt _ => hb3.block k hlt)).turn hg1 hat1).step (fun k hk hlt _ => hoth k (by omega))
    refine ⟨sv, iv, v1, vs ++ [dv], ?_, hlt, by omega, hS hR.seed, hS hR.image, hA.step (fun k hk hlt => hoth k (by omega))⟩
    rw [hblk5, hb]
  · rw [if_neg hn]
    exact RdE.of hblk5

set_option maxRecDepth 100000 in
set_option maxHeartbeats 1000000 in
theorem one_act (base rb : Nat) (s : ByteArray) (w : World) (r : RdD) (line : Int) (sv iv av : Value) (vs : List Value) (hR : Rd base rb w r line sv iv av vs) (hG : Glb w) (hs : s.size ≤ 2147483648) (h : s.data.toList.getLast? = some 10) (ch : UInt8) (t : List UInt8) (h0 : s.data.toList.dropLast = ch :: t)
    (h35 : ¬ ch = 35) (hb : r.begun = true) (hl : r.acts.length ≤ 5000) (a : ActD) (n : Int) (hx : readOf s.data.toList.dropLast = (a, n)) :
    Calls Tryz.prog 20 #[.pointer (some ⟨rb, 0, none⟩), .string s] w (OneP base rb w (actStep r a n) line) := by
  have HH := Lib.hid h
  have H0 := Lib.hid h0
  have n35 := ne35 h35
  clear h h0 h35
  have HX := Lib.hid hx
  clear hx
  have hblk := hR.blk
  rw [hb] at hblk
  have hlt := hR.lt
  have hsz := hR.size
  obtain ⟨⟨_, _, _, _, _, _, c6, c7, _, c9⟩, _, _, _, _, _, _, f6, f7, _, f9⟩ := cells10 hblk
  go_enter Tryz.func20, Tryz.ntmps20
  go_wp2_with (go_at_call 52; refine (cut_yes s _ hs HH.out).mono ?_; rintro e w' ⟨u, hu, rfl, rfl⟩; have hus := says_of hu hs; have HU := Lib.hid hu; rw [H0.out] at hu; obtain ⟨k1, k2, k3, k4⟩ := head_facts hu; clear hu)
  refine (read_any u _ hG hus).mono ?_
  intro e w2 hp
  rw [HU.out, HX.out] at hp
  obtain ⟨dv, rfl, hd2, hb2⟩ := hp
  obtain ⟨A1, m1, rfl⟩ := Kd.V_slice hd2
  have hblk2 : w2.heap[rb]? = some (.cells #[.int .i64 r.x.sector, .int .i64 r.x.block, .int .i64 r.x.slot, sv, iv, .int .u64 r.x.version, av, .bool true, .int .i64 line, .int .i64 0] 41 (0, 0)) := (hb2.block rb (by omega)).trans hblk
  clear c6 c7 c9 f6 f7 f9
  obtain ⟨⟨_, _, _, _, _, _, c6, c7, _, c9⟩, _, _, _, _, _, _, f6, f7, _, f9⟩ := cells10 hblk2
  go_wp2_with fail
  have hq5 := heap_new w2 (.cells #[.int .u8 a.kind, .int .u8 a.mode, .int .i64 a.p, .int .i64 a.n, .int .u64 a.version, .slice A1 a.data.length m1] 49)
  have hb3 : Below w.heap.size w (w2.alloc (.cells #[.int .u8 a.kind, .int .u8 a.mode, .int .i64 a.p, .int .i64 a.n, .int .u64 a.version, .slice A1 a.data.length m1] 49)) := hb2.alloc hb2.size _
  have hd3 := Kd.V_alloc hd2 (.cells #[.int .u8 a.kind, .int .u8 a.mode, .int .i64 a.p, .int .i64 a.n, .int .u64 a.version, .slice A1 a.data.length m1] 49)
  have hblk3 := (Below.heap_alloc w2 (.cells #[.int .u8 a.kind, .int .u8 a.mode, .int .i64 a.p, .int .i64 a.n, .int .u64 a.version, .slice A1 a.data.length m1] 49) rb (lt_of_block hblk2)).trans hblk2
  generalize w2.heap.size = q5 at hq5 ⊢
  generalize w2.alloc (.cells #[.int .u8 a.kind, .int .u8 a.mode, .int .i64 a.p, .int .i64 a.n, .int .u64 a.version, .slice A1 a.data.length m1] 49) = W3 at hq5 hb3 hd3 hblk3 ⊢
  clear c6 c7 c9 f6 f7 f9
  obtain ⟨⟨_, _, _, _, _, _, c6, c7, _, c9⟩, _, _, _, _, _, _, f6, f7, _, f9⟩ := cells10 hblk3
  obtain ⟨⟨d0, d1, d2, d3, d4, d5⟩, _⟩ := cells6 hq5
  have hown := (hR.acts.step (W1 := W3) (fun k hk hlt => hb3.block k hlt)).own
  have ho1 : ∀ u ∈ actCells a (.slice A1 a.data.length m1), u.oneCell' = true := actCells_one a A1 a.data.length m1
  have HO1 := Lib.hid ho1
  have HOWN := Lib.hid hown
  have hbs : base ≤ W3.heap.size := Nat.le_trans hsz hb3.size
  have hll : (r.acts.length + 1) * 56 ≤ 140737488355328 := by omega
  clear ho1 hown
  have hrl := lt_of_block hblk3
  have hne : ∀ e, av.ownBlock = some e → ¬ rb = e := fun e he h => by have := own_base hR.acts.own e he; omega
  have HNE := Lib.hid hne
  clear hne
  go_region_law (refine step_append_cells (w0 := W3) (W := W3.drew) base (by first | rfl | decide) (.tmp 22) (.tmp 24) 26 49 _ 6 56 rfl Tryz.underlying26 infoAct rfl (by decide) (by decide) av r.acts.length (rows r.acts vs) (actCells a (.slice A1 a.data.length m1)) rfl rfl rfl HO1.out HOWN.out (Below.refl _ _).drew hbs hll ?_; intro v1 w1 hown1 hB1 hg1 hat1; obtain ⟨g1, cap1, rfl⟩ := ownsRow_succ hown1; have hblk4 := (hg1.block rb hrl (fun e => HNE.out rb e.symm rfl)).trans hblk3; obtain ⟨⟨_, _, _, _, _, _, e6, _, _, e9⟩, _, _, _, _, _, _, g6, _, _, g9⟩ := cells10 hblk4)
  all_goals
    clear c6 c7 c9 f6 f7 f9 d0 d1 d2 d3 d4 d5
    exact ⟨rfl, _, results_none rfl _ _ _, one_close hR hb hb3 hd3 hown1 ⟨hg1.os, hg1.tape, hg1.output, hg1.size, hg1.block⟩ hat1 hB1 hblk4⟩

/-- one, at any line. -/
theorem one_any (base rb : Nat) (s : ByteArray) (w : World) (r : RdD) (line : Int) (sv iv av : Value) (vs : List Value) (hR : Rd base rb w r line sv iv av vs) (hG : Glb w) (hrb : 8 ≤ rb) (hs : s.size ≤ 2147483648) (hl : r.acts.length ≤ 5000) :
    Calls Tryz.prog 20 #[.pointer (some ⟨rb, 0, none⟩), .string s] w (OneP base rb w (oneOf r s.data.toList) line) := by
  unfold oneOf
  by_cases h : s.data.toList.getLast? = some 10
  · rw [if_pos h]
    unfold lineOf
    cases h0 : s.data.toList.dropLast with
    | nil => rw [if_pos rfl]; exact one_empty base rb s w r line sv iv av vs hR hs h h0
    | cons ch t =>
      rw [if_neg (by simp)]
      by_cases h35 : ch = 35
      · subst h35; rw [List.head?_cons, if_pos rfl]; exact one_hash base rb s w r line sv iv av vs hR hs h t h0
      · rw [if_neg (by simpa using h35)]
        unfold sayOf
        by_cases hb : r.begun = true
        · rw [if_pos hb]
          have := one_act base rb s w r line sv iv av vs hR hG hs h ch t h0 h35 hb hl (readOf (ch :: t)).1 (readOf (ch :: t)).2 (by rw [h0])
          unfold actStep at this
          exact this
        · rw [if_neg hb]
          have hb' : r.begun = false := by simpa using hb
          cases hx : beginOf (ch :: t) with
          | ok x => exact one_begin_ok base rb s w r line sv iv av vs hR hG hrb hs h ch t h0 h35 hb' x (by rw [h0]; exact hx)
          | bad e => exact one_begin_bad base rb s w r line sv iv av vs hR hG hrb hs h ch t h0 h35 hb' e (by rw [h0]; exact hx)
  · rw [if_neg h]; exact one_cut base rb s w r line sv iv av vs hR hs h
end Go.Proofs.YtccnmbfigpjkaaaGreatDoor
