/-
  DERIVED. What the row's list and the world's shape give of the package-level variables; a world that bears what the row lists.
-/
import Derived.Test.YtccnmbfigpjkaaaGreatDoorCards
import Derived.Test.YtccnmbfigpjkaaaGreatDoorTie
import Derived.ProofKit
import Derived.OpenShut
import Derived.Deep.DeepHandedRow
import Derived.Stop.LaidErr
import Derived.Shelf.Vars
import Derived.Test.YtccnmbfigpjkaaaGreatDoorWc
namespace Go.Proofs.YtccnmbfigpjkaaaGreatDoor
open Go.ChangeShapes Go.WideShapes Go.ChangeAt Go.RowKit

theorem own : ownKnob Tryz.prog.godebug = none := by kernel_rfl
theorem gAcc : Tryz.prog.globalNamed "unicode/utf8.acceptRanges" = some 7 := by kernel_rfl
theorem gPowType : (Tryz.prog.globals[1]?).map (·.type) = some 270 := by kernel_rfl
theorem gSynType : (Tryz.prog.globals[4]?).map (·.type) = some 51 := by kernel_rfl
theorem gRngType : (Tryz.prog.globals[5]?).map (·.type) = some 51 := by kernel_rfl
theorem cellsPow : Tryz.prog.cellsOf 270 = 20 := by kernel_rfl
theorem cellsU64 : Tryz.prog.cellsOf 37 = 1 := by kernel_rfl
theorem cellsStr : Tryz.prog.cellsOf 9 = 1 := by kernel_rfl
theorem cellsErr : Tryz.prog.cellsOf 453 = 1 := by kernel_rfl
theorem star : "*" ++ "errors.errorString" = "*errors.errorString" := by decide
theorem rowErr (u : TypeId) (h : Tryz.prog.typeName? 3 u = some "*errors.errorString") : u = 451 :=
  typeName_ptr_named (nm := "errors.errorString") (by rw [star]; kernel_rfl) (by kernel_rfl) (by decide) u (by rw [star]; exact h)
theorem lt_of_var {W : World} {n : String} {g : Nat} {cs : Array Value} (hg : Tryz.prog.globalNamed n = some g) (h : W.var? Tryz.prog n = some cs) : g < W.heap.size := by
  unfold World.var? at h
  simp only [hg, Option.bind_some] at h
  rcases Nat.lt_or_ge g W.heap.size with h' | h'
  · exact h'
  · simp [Array.getElem?_eq_none h'] at h

theorem glb_of {W : World} (hL : laidMetH Tryz.prog Rows.scriptRefusesRow.laid W) (hsh : W.ShapedOpen Tryz.prog) : Glb W := by
  have h2 := hL.tail.tail
  have h4 := h2.tail.tail
  have h5 := h4.tail
  obtain ⟨a1, s1, hv1, _, _, _⟩ := laid_sentinel h4 gRng gRngType Tryz.underlying51 rowErr Tryz.underlying451 Tryz.underlying453 rfl rfl Tryz.underlying9 cellsErr cellsStr
  obtain ⟨a2, s2, hv2, _, _, _⟩ := laid_sentinel h5 gSyn gSynType Tryz.underlying51 rowErr Tryz.underlying451 Tryz.underlying453 rfl rfl Tryz.underlying9 cellsErr cellsStr
  refine ⟨?_, ?_, ?_, ⟨_, _, hv2⟩, ⟨_, _, hv1⟩⟩
  · have t1 := lt_of_var gRng hv1
    obtain ⟨_, ⟨_, _, _, _, _, _, hg, _, hvar, _⟩, _⟩ := h2.tail
    have t2 := lt_of_var gAcc hvar
    omega
  · exact cell_of_shapedOpen_int (t := 3) (zero := #[.int .i64 0]) hsh (of_decide_eq_true (by kernel_rfl)) (by kernel_rfl) rfl (by kernel_rfl) (by kernel_rfl) Tryz.underlying3
  · exact Lib.tabIs_of_head gPow gPowType Tryz.underlying270 Tryz.underlying37 cellsU64 cellsPow h2

/-- A call whose arguments lie in no cell, that writes no cell that was there. -/
theorem post_nil {H : Type} {enc : TypeId × Value → H} {P : Program} {f : Func} {s : ChangeSpec} {apart fresh handsOn again : Bool} {W W' : World} {args : Array Value} {v : Value} {ds gs : List (DataW H)}
    (hW : DataW.Whole enc P f.params.toList s.vars apart W args.toList ds gs [])
    (hres : ∀ (b : Nat) (sp : Nat → Bool) (hd : Bool), DataW.TrodAll enc P W' b sp hd f.resultTypes.toList (v.resultList f.resultTypes.size) (s.fn H (ds ++ gs)).results [])
    (hargs : ∀ sp : Nat → Bool, DataW.TrodAll enc P W' 0 sp true f.params.toList args.toList (s.fn H (ds ++ gs)).args [])
    (hvars : ∀ sp : Nat → Bool, DataW.TrodVars enc P W' sp s.vars (s.fn H (ds ++ gs)).vars [])
    (hk : W.keptBut W' (· ∈ ([] : List MemPlace)))
    (hok : ∀ (j : Nat) (t : TypeId) (r : Value), f.resultTypes[j]? = some t → (v.resultList f.resultTypes.size)[j]? = some r → Value.okWide P W' .any 0 t r) :
    s.post enc P f apart fresh handsOn again W args v W' :=
  ⟨ds, gs, [], [], [], [], hW, hres _ _ _, hargs _, hvars _, World.keptBut_mono (fun p hp => (by cases hp)) hk, fun _ => ⟨hok, _, _, [], ⟨[], [], trodAll_append (hargs _) (hres _ _ _), hvars _, rfl, (fun _ _ hp => by cases hp), fun _ => List.nodup_nil⟩, (fun _ hp _ => by cases hp)⟩⟩

/-! ### A world that bears what the row lists -/
def asU8 (zs : List Nat) : Array Value := (zs.map fun (z : Nat) => Value.int .u8 (z : Int)).toArray
def d32 : List Nat := [0, 1, 28, 2, 29, 14, 24, 3, 30, 22, 20, 15, 25, 17, 4, 8, 31, 27, 13, 23, 21, 19, 16, 7, 26, 12, 18, 6, 11, 5, 10, 9]
def d64 : List Nat := [0, 1, 56, 2, 57, 49, 28, 3, 61, 58, 42, 50, 38, 29, 17, 4, 62, 47, 59, 36, 45, 43, 51, 22, 53, 39, 33, 30, 24, 18, 12, 5, 63, 55, 48, 27, 60, 41, 37, 16, 46, 35, 44, 21, 52, 32, 23, 11, 54, 26, 40, 15, 34, 20, 31, 10, 25, 14, 19, 9, 13, 8, 7, 6]
def accs : List Nat := [128, 191, 160, 191, 128, 159, 144, 191, 128, 143, 0, 0, 0, 0, 0, 0, 0, 0, 0, 0, 0, 0, 0, 0, 0, 0, 0, 0, 0, 0, 0, 0]
def txtRange : ByteArray := { data := #[118, 97, 108, 117, 101, 32, 111, 117, 116, 32, 111, 102, 32, 114, 97, 110, 103, 101] }
def txtSyntax : ByteArray := { data := #[105, 110, 118, 97, 108, 105, 100, 32, 115, 121, 110, 116, 97, 120] }
noncomputable def low : Nat := (World.holding Tryz.prog default ⟨#[], #[], []⟩).heap.size
def put (h : Array Obj) (g : Nat) (cs : Array Value) : Array Obj := h.modify g fun
  | .cells _ t frozen => .cells cs t frozen
  | o => o
noncomputable def laidWorld (os : Os) : World :=
  let w0 := World.holding Tryz.prog os ⟨#[.cells #[.string txtRange] 453, .cells #[.string txtSyntax] 453], #[], []⟩
  { w0 with heap := put (put (put (put (put (put (put w0.heap 2 (asU8 d32)) 3 (asU8 d64)) 1 ((Lib.pow10Tab.map fun z => Value.int .u64 z).toArray)) 7 (asU8 accs))
      5 #[.iface 451 (.pointer (some ⟨low, 0, none⟩))]) 4 #[.iface 451 (.pointer (some ⟨low + 1, 0, none⟩))]) 6 (asU8 Go.Pinned.utf8FirstZ) }
theorem laid_met (os : Os) : laidMet Tryz.prog Rows.scriptRefusesRow.laid ((laidWorld os).forCall (fun _ _ => 0) ⟨#[], #[.string ⟨#[]⟩], []⟩).memory :=
  laidMet_of_run' 8 (by kernel_rfl) (by kernel_rfl)
end Go.Proofs.YtccnmbfigpjkaaaGreatDoor
