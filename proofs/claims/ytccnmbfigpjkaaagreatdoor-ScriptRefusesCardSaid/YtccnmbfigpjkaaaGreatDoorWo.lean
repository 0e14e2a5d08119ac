/-
  DERIVED. 'parse': a text of at most 5000 bytes, its lines walked by strings.Lines.
-/
import Derived.Test.YtccnmbfigpjkaaaGreatDoorWn
namespace Go.Proofs.YtccnmbfigpjkaaaGreatDoor
open Go.RowKit Go.Shelf Go.Sort Go.Proofs.YtccnmbfigpjkaaaGreatDoorW.PrintWords
open Scr

attribute [local go_sem] Oper.semAt_some

/-- Where a walk over the lines is, beside the reader. -/
structure PIn (w W : World) (rec : Loop) (res : Option Addr) : Prop where
  res : W.heap[w.heap.size]? = some (.cells #[.pointer res] 35 (0, 0))
  var : W.heap[w.heap.size + 2]? = some (.cells #[.pointer (some ⟨w.heap.size + 1, 0, none⟩)] 35 (0, 0))
  dfr : W.heap[w.heap.size + 4]? = some (.deferred (some []))
  lrec : W.heap[w.heap.size + 5]? = some (.loop rec)
  below : Below w.heap.size w W
theorem PIn.step {w W W1 : World} {rec : Loop} {res : Option Addr} (h : PIn w W rec res) (ho : W1.os = W.os) (ht : W1.tape = W.tape) (hp : W1.output = W.output) (hs : W.heap.size ≤ W1.heap.size) (hb : ∀ k, k < w.heap.size + 6 → k ≠ w.heap.size + 1 → k ≠ w.heap.size + 3 → W1.heap[k]? = W.heap[k]?) : PIn w W1 rec res :=
  ⟨(hb _ (by omega) (by omega) (by omega)).trans h.res, (hb _ (by omega) (by omega) (by omega)).trans h.var, (hb _ (by omega) (by omega) (by omega)).trans h.dfr, (hb _ (by omega) (by omega) (by omega)).trans h.lrec,
   ⟨ho.trans h.below.os, ht.trans h.below.tape, hp.trans h.below.output, Nat.le_trans h.below.size hs, fun k hk => (hb k (by omega) (by omega) (by omega)).trans (h.below.block k hk)⟩⟩
theorem PIn.put {w W : World} {rec : Loop} {res : Option Addr} (h : PIn w W rec res) (rec' : Loop) : PIn w (W.putObj (w.heap.size + 5) (.loop rec')) rec' res :=
  ⟨(World.putObj_heap_other (by omega)).trans h.res, (World.putObj_heap_other (by omega)).trans h.var, (World.putObj_heap_other (by omega)).trans h.dfr, World.putObj_heap_same (Array.getElem?_eq_some_iff.1 h.lrec).1,
   ⟨h.below.os, h.below.tape, h.below.output, by have := h.below.size; simpa using this, fun k hk => (World.putObj_heap_other (by omega)).trans (h.below.block k hk)⟩⟩
theorem PIn.set {w W : World} {rec : Loop} {res : Option Addr} (h : PIn w W rec res) (res' : Option Addr) : PIn w (W.setCell ⟨w.heap.size, 0, none⟩ (.pointer res')) rec res' := by
  have hb : ∀ k, k ≠ w.heap.size → (W.setCell ⟨w.heap.size, 0, none⟩ (.pointer res')).heap[k]? = W.heap[k]? := fun k hk => Below.heap_setCell _ _ _ _ hk
  exact ⟨setCell_one h.res _, (hb _ (by omega)).trans h.var, (hb _ (by omega)).trans h.dfr, (hb _ (by omega)).trans h.lrec,
   ⟨h.below.os, h.below.tape, h.below.output, by have := h.below.size; simpa [World.setCell] using this, fun k hk => (hb k (by omega)).trans (h.below.block k hk)⟩⟩

/-- Between two rounds. -/
def PJ (w : World) (rec : Loop) (pre : List (List UInt8)) (W : World) : Prop :=
  ∃ r sv iv av vs, runLines rdZ 0 pre = .ok r ∧ Rd (w.heap.size + 6) (w.heap.size + 1) W r pre.length sv iv av vs ∧ PIn w W rec none
/-- A round has said 'no more'. -/
def PX (w : World) (rec : Loop) (pre : List (List UInt8)) (W : World) : Prop :=
  ∃ e, (∀ rest, runLines rdZ 0 (pre ++ rest) = .bad pre.length e) ∧ RdE (w.heap.size + 1) W pre.length e ∧ PIn w W rec (some ⟨w.heap.size + 1, 0, none⟩)

/-- How a round's body over the lines may be left. -/
def lineP (J Jx : List (List UInt8) → World → Prop) (Bs : Nat) (xs : List (List UInt8)) (W : World) : Exit → Act → World → Prop
  | .normal, _, W' => W'.heap[Bs]? = W.heap[Bs]? ∧ J xs W'
  | .ret, _, W' => W'.heap[Bs]? = W.heap[Bs]? ∧ Jx xs W'
  | _, _, _ => False

/-- 'for s := range strings.Lines(text)': the law. -/
theorem range_lines {n : Nat} {g : Operand} {ps : Array Tmp} {assign body : Code} {Q : Exit → Act → World → Prop} {a : Act} {w : World} (text : ByteArray) (Bs : Nat) (hlen : text.size ≤ 2147483648)
    (hg : a.eval g = .func (.func 50) #[] #[.pointer (some ⟨Bs, 0, none⟩)]) (hps : ps.size = 1) (hBs : w.heap[Bs]? = some (.cells #[.string text] 9 (0, 0)))
    (J Jx : Loop → List (List UInt8) → World → Prop)
    (h0 : ∀ rec, J rec [] ((w.alloc (.deferred (some []))).alloc (.loop rec)))
    (hJs : ∀ rec pre W v, J rec pre W → J rec pre (W.setCell ⟨Bs, 0, none⟩ v)) (hJd : ∀ rec pre W, J rec pre W → J rec pre W.drew)
    (hJl : ∀ rec pre W, J rec pre W → W.heap[w.heap.size + 1]? = some (.loop rec)) (hJp : ∀ rec rec' pre W, J rec pre W → J rec' pre (W.putObj (w.heap.size + 1) (.loop rec')))
    (hXl : ∀ rec pre W, Jx rec pre W → W.heap[w.heap.size + 1]? = some (.loop rec)) (hXp : ∀ rec rec' pre W, Jx rec pre W → Jx rec' pre (W.putObj (w.heap.size + 1) (.loop rec')))
    (a₁ : ByteArray → Act)
    (hassign : ∀ (x : ByteArray) (W : World) (K : Act → World → Prop), K (a₁ x) W →
      assign.wpIn (Fence.wide.inRound (w.heap.size + 1)) (n - 1 - 1) Tryz.prog (Exit.then K (fun _ _ _ => False)) { tmps := (ps.zip #[.string x]).foldl (fun t (p, v) => t.setIfInBounds p v) a.tmps, defers := [] } W)
    (hbody : ∀ (rec : Loop) (pre rest : List (List UInt8)) (x : ByteArray) (W : World), J rec pre W → linesOf text.data.toList = pre ++ x.data.toList :: rest → x.size ≤ text.size →
      body.wpIn (Fence.wide.inRound (w.heap.size + 1)) (n - 1 - 1) Tryz.prog (lineP (J rec) (Jx rec) Bs (pre ++ [x.data.toList]) W) (a₁ x) W)
    (hdone : ∀ rec W, J rec (linesOf text.data.toList) W → Q .normal { a with defers := { target := .collected w.heap.size, args := #[] } :: a.defers } W)
    (hstop : ∀ rec pre rest W, linesOf text.data.toList = pre ++ rest → Jx rec pre W → Code.ret.wpIn Fence.wide n Tryz.prog Q { a with defers := { target := .collected w.heap.size, args := #[] } :: a.defers } W) :
    (Code.rangeFunc g ps assign body).wpIn Fence.wide n Tryz.prog Q a w := by
  refine wpIn_rangeFunc ?_
  intro fn hfn
  obtain ⟨rec, hrec⟩ : ∃ rec : LoopState → Option Code → Loop, rec = fun st pe => { state := st, pending := pe, fn, tmps := a.tmps, params := ps, assign, body, defers := w.heap.size } := ⟨_, rfl⟩
  obtain ⟨W1, hW1⟩ : ∃ W1, (w.alloc (.deferred (some []))).alloc (.loop (rec .ready none)) = W1 := ⟨_, rfl⟩
  have hblt : Bs < w.heap.size := (Array.getElem?_eq_some_iff.1 hBs).1
  have hI1 : J (rec .ready none) [] W1 := by rw [← hW1]; exact h0 _
  have hB1 : W1.heap[Bs]? = some (.cells #[.string text] 9 (0, 0)) := by
    rw [← hW1, Below.heap_alloc _ _ _ (by simp; omega), Below.heap_alloc _ _ _ hblt]; exact hBs
  refine ⟨w.heap.size + 1, [{ target := .collected w.heap.size, args := #[] }], W1, { target := .fn (.func 50) #[.pointer (some ⟨Bs, 0, none⟩)], args := #[.func (.yield (w.heap.size + 1)) #[] #[]] }, W1, 50,
    #[.func (.yield (w.heap.size + 1)) #[] #[], .pointer (some ⟨Bs, 0, none⟩)], W1, ?_, ?_, ?_, ?_, (by intro h; cases h), ?_⟩
  · rw [← hW1, hrec]; exact run_enterLoop_outer _ _ _ _ _
  · simp only [resolve, hg]
    simp [go_sem]
  · intro f' hf'; trivial
  · simp [invoke, go_sem]
  · have hL1 := hJl _ _ _ hI1
    refine (lines1_in (n - 1) (w.heap.size + 1) Bs text (J (rec .ready none)) (Jx (rec .done (some .ret))) (fun pre W v h => hJs _ pre W v h) (fun pre W h => hJd _ pre W h) ?_ W1 hB1 hI1 hlen).mono ?_
    · intro pre rest x W hi hx hxs
      have hl := hJl _ _ _ hi
      have hlt : w.heap.size + 1 < W.heap.size := (Array.getElem?_eq_some_iff.1 hl).1
      have hy := run_yield (P := Tryz.prog) (args := #[.string x]) hl (by rw [hrec]; exact hps.symm)
      rw [hrec] at hy
      refine ⟨fn, _, assign, body, hy, roundIn_of_wpIn hfn (hassign x W _ ⟨_, run_beginRound hl (by rw [hrec]), ?_⟩)⟩
      refine wpIn_mono (hbody { rec .ready none with state := .busy } pre rest x _ (hJp _ _ pre W hi) hx hxs) ?_
      have hpB : ∀ (W : World) (o : Obj), (W.putObj (w.heap.size + 1) o).heap[Bs]? = W.heap[Bs]? := fun W o => World.putObj_heap_other (by omega)
      have fin : ∀ (jump : Option Code) (W3 : World), W3.heap[w.heap.size + 1]? = some (.loop { rec .ready none with state := .busy }) →
          (Instr.endRound (w.heap.size + 1) jump).run Tryz.prog W3 = .ok (.bool jump.isNone) (W3.putObj (w.heap.size + 1) (.loop (rec (if jump.isNone then .ready else .done) jump))) := fun jump W3 hl3 => by
        have := run_endRound (P := Tryz.prog) jump hl3
        rw [hrec] at this ⊢
        exact this
      rintro e a3 W3 hp
      cases e with
      | normal =>
        obtain ⟨hk3, hi3⟩ := hp
        exact ⟨_, _, fin none W3 (hJl _ _ _ hi3), .inl ⟨rfl, hJp _ _ _ _ hi3, (hpB _ _).trans (hk3.trans (hpB _ _))⟩⟩
      | ret =>
        obtain ⟨hk3, hi3⟩ := hp
        exact ⟨_, _, fin (some .ret) W3 (hXl _ _ _ hi3), .inr ⟨rfl, hXp _ _ _ _ hi3⟩⟩
      | exit id => exact hp.elim
      | goto t => exact hp.elim
      | panic ch => exact hp.elim
      | outgrown => exact hp.elim
    · rintro e W2 ⟨⟨v, rfl⟩, (hi | ⟨pre, rest, hpr, hi⟩)⟩
      · exact ⟨none, _, by have := run_endLoop (P := Tryz.prog) (hJl _ _ _ hi) (by rw [hrec]; simp); rw [hrec] at this; exact this, hdone _ _ (hJp _ _ _ _ hi)⟩
      · exact ⟨some .ret, _, by have := run_endLoop (P := Tryz.prog) (hXl _ _ _ hi) (by rw [hrec]; simp); rw [hrec] at this; exact this, hstop _ pre rest _ hpr (hXp _ _ _ _ hi)⟩

theorem RdE.step {rb : Nat} {W W1 : World} {line e : Int} (h : RdE rb W line e) (hb : W1.heap[rb]? = W.heap[rb]?) : RdE rb W1 line e := by
  obtain ⟨cs, h1, h2⟩ := h; exact ⟨cs, hb.trans h1, h2⟩

theorem parse_close {w W : World} {rec : Loop} {text : List UInt8} {tmps : Array Value} (hP : PIn w W rec (some ⟨w.heap.size + 1, 0, none⟩)) (h2 : tmps[2]? = some (.pointer (some ⟨w.heap.size, 0, none⟩)))
    (hm : match parseOf text with
      | .ok r => ∃ sv iv av vs, Rd (w.heap.size + 6) (w.heap.size + 1) W r 0 sv iv av vs
      | .bad n e => RdE (w.heap.size + 1) W n e) :
    LeavesInM Fence.wide 9 Tryz.prog Tryz.f9 tmps (ParseP w text) [{ target := .collected (w.heap.size + 4), args := #[] }] .returning W := by
  refine ⟨by simp, .inl ⟨_, _, rfl, run_takeDeferred hP.dfr, ?_⟩⟩
  have hq : ∀ k, k ≠ w.heap.size + 4 → (W.putObj (w.heap.size + 4) (.deferred none)).heap[k]? = W.heap[k]? := fun k hk => World.putObj_heap_other hk
  refine ⟨_, parse_res h2 (cell_of_box ((hq _ (by omega)).trans hP.res)), rfl, ?_, ?_⟩
  · exact ⟨hP.below.os, hP.below.tape, hP.below.output, by have := hP.below.size; simpa using this, fun k hk => (hq k (by omega)).trans (hP.below.block k hk)⟩
  · cases hx : parseOf text with
    | ok r =>
      rw [hx] at hm
      obtain ⟨sv, iv, av, vs, hR⟩ := hm
      exact ⟨_, sv, iv, av, vs, hR.step (by simp) (hq _ (by omega)) (fun k hk _ => hq k (by omega))⟩
    | bad n e =>
      rw [hx] at hm
      exact RdE.step hm (hq _ (by omega))
/-- A turn of the reader's own block. -/
theorem PIn.rd {w W : World} {rec : Loop} {res : Option Addr} (h : PIn w W rec res) (o : Nat) (v : Value) : PIn w (W.setCell ⟨w.heap.size + 1, o, none⟩ v) rec res :=
  h.step rfl rfl rfl (by simp [World.setCell]) (fun k _ hk _ => Below.heap_setCell _ _ _ _ hk)
theorem Rd.far {base rb : Nat} {W : World} {r : RdD} {line : Int} {sv iv av : Value} {vs : List Value} (h : Rd base rb W r line sv iv av vs) (q o : Nat) (v : Value) (hq : q < base) (hn : rb ≠ q) : Rd base rb (W.setCell ⟨q, o, none⟩ v) r line sv iv av vs :=
  h.step (by simp [World.setCell]) (Below.heap_setCell _ _ _ _ hn) (fun k hk _ => Below.heap_setCell _ _ _ _ (by show k ≠ q; omega))

set_option maxRecDepth 100000 in
set_option maxHeartbeats 2000000 in
theorem parse_go (text : ByteArray) (w : World) (hG : Glb w) (hrb : 8 ≤ w.heap.size) (hs : text.size ≤ 5000) (hc : ¬ 1000 < Lib.countByte text.data.toList 10) :
    CallsIn Fence.wide 9 Tryz.prog 9 #[.string text] w (ParseP w text.data.toList) := by
  have hl : ¬ (1048576 : Int) < text.size := by omega
  have hc' : ¬ (1000 : Int) < Lib.countByte text.data.toList 10 := by omega
  have HS := Lib.hid hs
  clear hs
  refine callsIn_of_wp_marks Tryz.func9 rfl trivial ?_ rfl
  simp only [Tryz.ntmps9, List.size_toArray, List.length_cons, List.length_nil, Nat.reduceAdd, Nat.reduceSub, Array.replicate_succ, Array.replicate_zero, List.push_toArray, List.append_toArray, List.nil_append, List.cons_append]
  gi_wp2_with fail
  refine ⟨trivial, ?_⟩
  refine (callsIn_wide.2 (Tryz.strings_Count_one text 10 _)).mono ?_
  rintro e w' ⟨rfl, rfl⟩
  gi_wp2_with fail
  refine ⟨trivial, ?_⟩
  refine (callsIn_wide.2 (lines_any text _)).mono ?_
  rintro e w' ⟨rfl, rfl⟩
  gi_wp2_with fail
  generalize hW : ((w.alloc (.cells #[.pointer none] 35)).alloc _).alloc _ = W
  obtain ⟨h0, h1, h2, hB, hsz⟩ := parse_lay _ _ _ _ _ hW
  clear hW
  have hWl : (W.alloc (.cells #[.string text] 9)).heap.size = w.heap.size + 4 := by simp [hsz]
  have hBs : (W.alloc (.cells #[.string text] 9)).heap[w.heap.size + 3]? = some (.cells #[.string text] 9 (0, 0)) := by have := World.alloc_heap_new W (.cells #[.string text] 9); rwa [hsz] at this
  have hold : ∀ k, k < w.heap.size + 3 → (W.alloc (.cells #[.string text] 9)).heap[k]? = W.heap[k]? := fun k hk => Below.heap_alloc _ _ _ (by omega)
  have h0' := (hold _ (by omega)).trans h0
  have h1' := (hold _ (by omega)).trans h1
  have h2' := (hold _ (by omega)).trans h2
  have hB' : Below w.heap.size w (W.alloc (.cells #[.string text] 9)) := hB.alloc hB.size _
  generalize hV : W.alloc (.cells #[.string text] 9) = V at hWl hBs h0' h1' h2' hB' ⊢
  clear hV hold h0 h1 h2 hB hsz W
  refine range_lines text (w.heap.size + 3) (by have := HS.out; omega) rfl rfl hBs (PJ w) (PX w) ?h0 ?hJs ?hJd ?hJl ?hJp ?hXl ?hXp ?a1 ?assign ?body ?done ?stop
  case assign =>
    intro x W K hK
    gi_wp2
    exact hK
  case h0 =>
    intro rec
    have hz : ((V.alloc (.deferred (some []))).alloc (.loop rec)).heap.size = w.heap.size + 6 := by simp [hWl]
    have hq : ∀ k, k < w.heap.size + 4 → ((V.alloc (.deferred (some []))).alloc (.loop rec)).heap[k]? = V.heap[k]? := fun k hk => (Below.heap_alloc _ _ _ (by simp; omega)).trans (Below.heap_alloc _ _ _ (by omega))
    have hd : ((V.alloc (.deferred (some []))).alloc (.loop rec)).heap[w.heap.size + 4]? = some (.deferred (some [])) := by
      rw [Below.heap_alloc _ _ _ (by simp; omega), ← hWl]; exact World.alloc_heap_new _ _
    have hn : ((V.alloc (.deferred (some []))).alloc (.loop rec)).heap[w.heap.size + 5]? = some (.loop rec) := by
      have := World.alloc_heap_new (V.alloc (.deferred (some []))) (.loop rec); rwa [World.size_alloc, hWl] at this
    have hb2 : Below w.heap.size w ((V.alloc (.deferred (some []))).alloc (.loop rec)) := (hB'.alloc hB'.size _).alloc (hB'.alloc hB'.size _).size _
    generalize (V.alloc (.deferred (some []))).alloc (.loop rec) = W at hz hq hd hn hb2 ⊢
    refine ⟨rdZ, _, _, _, [], rfl, ⟨(hq _ (by omega)).trans h1', by omega, by omega, Kd.V_nil _ _ _ _ _, Kd.V_nil _ _ _ _ _, ⟨rfl, World.ownsRow_nil W _ _ _, fun i a v ha => by simp [rdZ] at ha⟩⟩, (hq _ (by omega)).trans h0', (hq _ (by omega)).trans h2', hd, hn, hb2⟩
  case hJs =>
    rintro rec pre W v ⟨r, sv, iv, av, vs, hr, hR, hP⟩
    have hb : ∀ k, k ≠ w.heap.size + 3 → (W.setCell ⟨w.heap.size + 3, 0, none⟩ v).heap[k]? = W.heap[k]? := fun k hk => Below.heap_setCell _ _ _ _ hk
    have hsz : W.heap.size ≤ (W.setCell ⟨w.heap.size + 3, 0, none⟩ v).heap.size := by simp [World.setCell]
    exact ⟨r, sv, iv, av, vs, hr, hR.step hsz (hb _ (by omega)) (fun k hk _ => hb k (by omega)), hP.step rfl rfl rfl hsz (fun k _ _ hk => hb k hk)⟩
  case hJd =>
    rintro rec pre W ⟨r, sv, iv, av, vs, hr, hR, hP⟩
    exact ⟨r, sv, iv, av, vs, hr, hR.step (Nat.le_refl _) rfl (fun _ _ _ => rfl), hP.step rfl rfl rfl (Nat.le_refl _) (fun _ _ _ _ => rfl)⟩
  case hJl =>
    rintro rec pre W ⟨r, sv, iv, av, vs, hr, hR, hP⟩
    rw [hWl]; exact hP.lrec
  case hJp =>
    rintro rec rec' pre W ⟨r, sv, iv, av, vs, hr, hR, hP⟩
    rw [hWl]
    exact ⟨r, sv, iv, av, vs, hr, hR.step (by simp) (World.putObj_heap_other (by omega)) (fun k hk _ => World.putObj_heap_other (by omega)), hP.put rec'⟩
  case hXl =>
    rintro rec pre W ⟨e, hr, hE, hP⟩
    rw [hWl]; exact hP.lrec
  case hXp =>
    rintro rec rec' pre W ⟨e, hr, hE, hP⟩
    rw [hWl]
    exact ⟨e, hr, hE.step (World.putObj_heap_other (by omega)), hP.put rec'⟩
  case done =>
    rintro rec W ⟨r, sv, iv, av, vs, hr, hR, hP⟩
    obtain ⟨⟨_, _, _, _, _, _, _, c7, c8, c9⟩, _, _, _, _, _, _, _, f7, f8, f9⟩ := cells10 hR.blk
    have cv := cell_of_box hP.var
    have fv := frozen_of_box hP.var
    have cr := cell_of_box hP.res
    have fr := frozen_of_box hP.res
    rw [hWl]
    by_cases hbg : r.begun = true
    · gi_wp2
      refine parse_close ((hP.rd 8 _).set _) rfl ?_
      rw [parseOf, if_neg hc, hr]
      simp only [hbg, if_true]
      exact ⟨sv, iv, av, vs, (hR.line 0).far _ _ _ (by omega) (by omega)⟩
    · have hbg' : r.begun = false := by simpa using hbg
      gi_wp2
      refine parse_close (((hP.rd 8 _).rd 9 _).set _) rfl ?_
      rw [parseOf, if_neg hc, hr]
      simp only [hbg', Bool.false_eq_true, if_false]
      exact RdE.step (RdE.of (setCell_heap (setCell_heap hR.blk))) (Below.heap_setCell _ _ _ _ (by show w.heap.size + 1 ≠ w.heap.size; omega))
  case stop =>
    rintro rec pre rest W hpr ⟨e, hr, hE, hP⟩
    gi_wp2
    rw [hWl]
    refine parse_close hP rfl ?_
    rw [parseOf, if_neg hc, hpr, hr rest]
    exact hE
  case body =>
    rintro rec pre rest x W ⟨r, sv, iv, av, vs, hr, hR, hP⟩ hx hxs
    have hpl : pre.length ≤ 5000 := by
      have h1 := linesOf_length text.data.toList
      have h2 := HS.out
      rw [hx] at h1
      have h3 : text.data.toList.length = text.size := by rw [Array.length_toList]; rfl
      simp only [List.length_append, List.length_cons] at h1
      omega
    have hxs' : x.size ≤ 2147483648 := by have := HS.out; omega
    have hal : r.acts.length ≤ 5000 := by have := runLines_acts _ _ _ _ hr; simp only [rdZ, List.length_nil] at this; omega
    obtain ⟨⟨_, _, _, _, _, _, _, c7, c8, c9⟩, _, _, _, _, _, _, _, f7, f8, f9⟩ := cells10 hR.blk
    have cv := cell_of_box hP.var
    have fv := frozen_of_box hP.var
    have hw : wrap64 ((pre.length : Int) + 1) = (pre.length : Int) + 1 := by unfold wrap64; omega
    have hR2 := hR.line ((pre.length : Int) + 1)
    have hP2 := hP.rd 8 (.int .i64 ((pre.length : Int) + 1))
    have hG2 : Glb (W.setCell ⟨w.heap.size + 1, 8, none⟩ (.int .i64 ((pre.length : Int) + 1))) := hG.below hP2.below hrb
    have hk2 : (W.setCell ⟨w.heap.size + 1, 8, none⟩ (.int .i64 ((pre.length : Int) + 1))).heap[w.heap.size + 3]? = W.heap[w.heap.size + 3]? := Below.heap_setCell _ _ _ _ (by show w.heap.size + 3 ≠ w.heap.size + 1; omega)
    have hone := CallsIn.inRound (w.heap.size + 4 + 1) (callsIn_wide (n := 6).2 (one_any (w.heap.size + 6) (w.heap.size + 1) x _ r _ sv iv av vs hR2 hG2 (by omega) hxs' hal))
    gi_wp2_with fail
    refine ⟨trivial, ?_⟩
    refine hone.mono ?_
    clear hone
    rintro e W2 ⟨rfl, hF, hm⟩
    have hP3 : PIn w W2 rec none := hP2.step hF.os hF.tape hF.output hF.size (fun k h1 h2 _ => hF.block k h1 h2)
    have hk3 := (hF.block (w.heap.size + 3) (by omega) (by omega)).trans hk2
    have hpq : ((pre ++ [x.data.toList]).length : Int) = (pre.length : Int) + 1 := by simp
    clear hP2 hG2 hR2 hk2 hF c7 c8 c9 f7 f8 f9 cv fv
    generalize W.setCell ⟨w.heap.size + 1, 8, none⟩ (.int .i64 ((pre.length : Int) + 1)) = Wm at *
    have cv := cell_of_box hP3.var
    have fv := frozen_of_box hP3.var
    have cr := cell_of_box hP3.res
    have fr := frozen_of_box hP3.res
    cases ho : oneOf r x.data.toList with
    | ok q =>
      rw [ho] at hm
      obtain ⟨sv2, iv2, av2, vs2, hR3⟩ := hm
      obtain ⟨⟨_, _, _, _, _, _, _, _, _, c9⟩, _, _, _, _, _, _, _, _, _, f9⟩ := cells10 hR3.blk
      gi_wp2
      exact ⟨hk3, q, sv2, iv2, av2, vs2, runLines_snoc hr ho, by rw [hpq]; exact hR3, hP3⟩
    | bad n =>
      rw [ho] at hm
      have hn := (oneOf_bad ho).ne
      obtain ⟨cs, hblk, hcs, h8, h9⟩ := hm
      have c9 : W2.cell? ⟨w.heap.size + 1, 9, none⟩ = some (.int .i64 n) := by simp [World.cell?, hblk, h9]
      have f9 : W2.frozen? ⟨w.heap.size + 1, 9, none⟩ = false := by
        have : 9 < cs.size := by omega
        simp [World.frozen?, hblk]
      gi_wp2
      refine ⟨(Below.heap_setCell _ _ _ _ (by show w.heap.size + 3 ≠ w.heap.size; omega)).trans hk3, n, ?_, ?_, hP3.set _⟩
      · intro rest
        rw [List.append_assoc, List.singleton_append, runLines_stop hr ho]
        simp
      · rw [hpq]
        exact RdE.step ⟨cs, hblk, hcs, h8, h9⟩ (Below.heap_setCell _ _ _ _ (by show w.heap.size + 1 ≠ w.heap.size; omega))

/-- parse, at any text of at most 5000 bytes. -/
theorem parse_any (text : ByteArray) (w : World) (hG : Glb w) (hrb : 8 ≤ w.heap.size) (hs : text.size ≤ 5000) :
    Calls Tryz.prog 9 #[.string text] w (ParseP w text.data.toList) := by
  by_cases hc : 1000 < Lib.countByte text.data.toList 10
  · exact parse_long text w (by omega) (by omega)
  · exact callsIn_wide.1 (parse_go text w hG hrb hs hc)
end Go.Proofs.YtccnmbfigpjkaaaGreatDoor
