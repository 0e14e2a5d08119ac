/-
  DERIVED. '(*words).act' at any words, joined; 'caught' (what is deferred), and 'read': the act of a line, for every line of at most 2^31 bytes.
  DERIVED. 'caught' (what is deferred), and 'read': the act of a line, for every line of at most 2^31 bytes.
-/
import Derived.Test.YtccnmbfigpjkaaaGreatDoorWe
import Derived.Recover
import Derived.Defers
namespace Go.Proofs.YtccnmbfigpjkaaaGreatDoor
open Go.RowKit Go.Sort Go.Proofs.YtccnmbfigpjkaaaGreatDoorW.PrintWords
open Scr

set_option maxRecDepth 100000 in
theorem act_nil (B : Nat) {N : Nat} (v : Value) (w : World) (hv : Var B w v) (hs : Ws B N w v []) : Calls Tryz.prog 99 #[.pointer (some ⟨B, 0, none⟩)] w (Thr B w 3) := by
  have hmf := run_mf
  have hv0 := boxed_var hv
  have hs0 := boxed_ws hs
  go_enter Tryz.func99, Tryz.ntmps99
  go_wp2_with (go_at_call 95; refine (next_nil B v _ hv0 hs0).mono ?_; rintro e w1 ⟨rfl, v1, hu⟩)
  exact ⟨rfl, rfl, _, boxed_upd hv hu⟩

theorem ne_beq {s : ByteArray} {l : List UInt8} (h : ¬ s.data.toList = l) : (s.toList == l) = false := by rw [ByteArray.toList_eq]; exact beq_eq_false_iff_ne.2 h

set_option maxRecDepth 100000 in
theorem act_other (B : Nat) {N : Nat} (v : Value) (s : ByteArray) (ss : List ByteArray) (w : World) (hv : Var B w v) (hs : Ws B N w v (s :: ss))
    (h1 : ¬ s.data.toList = wBuild) (h2 : ¬ s.data.toList = wFeed) (h3 : ¬ s.data.toList = wSpoil) (h4 : ¬ s.data.toList = wFuse) (h5 : ¬ s.data.toList = wFall) (h6 : ¬ s.data.toList = wBegin) (h7 : ¬ s.data.toList = wCommit) (h8 : ¬ s.data.toList = wCancel) (h9 : ¬ s.data.toList = wImage) (h10 : ¬ s.data.toList = wStatus) :
    Calls Tryz.prog 99 #[.pointer (some ⟨B, 0, none⟩)] w (Thr B w 21) := by
  have hmf := run_mf
  have hv0 := boxed_var hv
  have hs0 := boxed_ws hs
  have b1 : (s.toList == [98, 117, 105, 108, 100]) = false := ne_beq h1
  have b2 : (s.toList == [102, 101, 101, 100]) = false := ne_beq h2
  have b3 : (s.toList == [115, 112, 111, 105, 108]) = false := ne_beq h3
  have b4 : (s.toList == [102, 117, 115, 101]) = false := ne_beq h4
  have b5 : (s.toList == [102, 97, 108, 108]) = false := ne_beq h5
  have b6 : (s.toList == [98, 101, 103, 105, 110]) = false := ne_beq h6
  have b7 : (s.toList == [99, 111, 109, 109, 105, 116]) = false := ne_beq h7
  have b8 : (s.toList == [99, 97, 110, 99, 101, 108]) = false := ne_beq h8
  have b9 : (s.toList == [105, 109, 97, 103, 101]) = false := ne_beq h9
  have b10 : (s.toList == [115, 116, 97, 116, 117, 115]) = false := ne_beq h10
  clear h1 h2 h3 h4 h5 h6 h7 h8 h9 h10
  go_enter Tryz.func99, Tryz.ntmps99
  go_wp2_with (go_at_call 95; refine (next_cons B v s ss _ hv0 hs0).mono ?_; rintro e w1 ⟨rfl, v1, hu, hq⟩)
  exact ⟨rfl, rfl, _, boxed_upd hv hu⟩

theorem tl {s : ByteArray} {l : List UInt8} (h : s.data.toList = l) : s.toList = l := by rw [ByteArray.toList_eq]; exact h

/-- act, at any words. -/
theorem act_any (B : Nat) {N : Nat} (v : Value) (ss : List ByteArray) (w : World) (hG : Glb w) (hB : 8 ≤ B) (hv : Var B w v) (hs : Ws B N w v ss) (hz : Short ss) :
    Calls Tryz.prog 99 #[.pointer (some ⟨B, 0, none⟩)] w (ActP B N w (actOf (lst ss))) := by
  cases ss with
  | nil => exact act_nil B v w hv hs
  | cons s r =>
    have hr := hz.tail
    show Calls _ _ _ _ (ActP B N w (fields s.data.toList (lst r)))
    unfold fields
    split
    · exact act_build B v s r w hG hB hv hs hr (tl (by assumption))
    split
    · exact act_feed B v s r w hG hB hv hs hr (tl (by assumption))
    split
    · exact act_spoil B v s r w hG hB hv hs hr (tl (by assumption))
    split
    · exact act_fuse B v s r w hG hB hv hs hr (tl (by assumption))
    split
    · exact act_fall B v s r w hv hs hr (tl (by assumption))
    split
    · exact act_begin B v s r w hv hs hr (tl (by assumption))
    split
    · exact act_commit B v s r w hv hs hr (tl (by assumption))
    split
    · exact act_cancel B v s r w hv hs hr (tl (by assumption))
    split
    · exact act_image B v s r w hv hs hr (tl (by assumption))
    split
    · exact act_status B v s r w hv hs hr (tl (by assumption))
    · exact act_other B v s r w hv hs ‹_› ‹_› ‹_› ‹_› ‹_› ‹_› ‹_› ‹_› ‹_› ‹_›
end Go.Proofs.YtccnmbfigpjkaaaGreatDoor

namespace Go.Proofs.YtccnmbfigpjkaaaGreatDoor
open Go.RowKit Go.Sort Go.Proofs.YtccnmbfigpjkaaaGreatDoorW.PrintWords
open Scr

theorem run_ta (n : Int) (w : World) : (Instr.typeAssert (stopV n) 20 180 true).run Tryz.prog w = .ok (.tuple #[.agg #[.int .i64 n], .bool true]) w := by kernel_rfl

set_option maxRecDepth 100000 in
/-- caught, where 'stop' was thrown: its number is laid. -/
theorem caught_panicking (b : Nat) (x n : Int) (w : World) (hb : b < w.heap.size) (hc : w.cell? ⟨b, 0, none⟩ = some (.int .i64 x)) (hz : w.frozen? ⟨b, 0, none⟩ = false) :
    CallsD Tryz.prog 93 #[.pointer (some ⟨b, 0, none⟩)] (.panicking [{ v := stopV n, recovered := false }]) w fun e u' w' =>
      e = .returned (.tuple #[]) ∧ u' = .panicking [{ v := stopV n, recovered := true }] ∧ w' = (w.setCell ⟨b, 0, none⟩ (.int .i64 n)).alloc (.cells #[.int .i64 n] 180) := by
  have hta := run_ta
  refine callsD_of_wpS Tryz.func93 rfl fun c₀ cs hu => ?_
  simp only [Tryz.ntmps93, List.size_toArray, List.length_cons, List.length_nil, Nat.reduceAdd, Nat.reduceSub, Array.replicate_succ, Array.replicate_zero, List.push_toArray, List.append_toArray, List.nil_append, List.cons_append]
  apply wpS_seq
  apply wpS_region
  simp [wpOpsS, go_sem, recoverD, hu, Exit.thenS]
  refine wpS_of_wp ?_
  generalize hQ : (fun (e : Exit) (a' : Act) (w' : World) => bodyPostS Tryz.prog Tryz.f93 c₀ cs _ e a' _ w') = Q
  have HQ := Lib.hid hQ
  clear hQ
  go_wp2
  rw [← HQ.out]
  exact ⟨rfl, _, rfl, .tuple #[], by simp [results, Tryz.results93], rfl, rfl, rfl⟩

set_option maxRecDepth 100000 in
/-- caught, where nothing was thrown. -/
theorem caught_idle (b : Nat) (w : World) :
    CallsD Tryz.prog 93 #[.pointer (some ⟨b, 0, none⟩)] .returning w fun e u' w' => e = .returned (.tuple #[]) ∧ u' = .returning ∧ w' = w := by
  refine callsD_of_wpS Tryz.func93 rfl fun c₀ cs hu => ?_
  simp only [Tryz.ntmps93, List.size_toArray, List.length_cons, List.length_nil, Nat.reduceAdd, Nat.reduceSub, Array.replicate_succ, Array.replicate_zero, List.push_toArray, List.append_toArray, List.nil_append, List.cons_append]
  apply wpS_seq
  apply wpS_region
  simp [wpOpsS, go_sem, recoverD, hu, Exit.thenS]
  refine wpS_of_wp ?_
  generalize hQ : (fun (e : Exit) (a' : Act) (w' : World) => bodyPostS Tryz.prog Tryz.f93 c₀ cs _ e a' _ w') = Q
  have HQ := Lib.hid hQ
  clear hQ
  go_wp2
  rw [← HQ.out]
  refine ⟨rfl, .returning, ?_, .tuple #[], by simp [results, Tryz.results93], rfl, rfl, rfl⟩
  cases c₀
  simp_all
end Go.Proofs.YtccnmbfigpjkaaaGreatDoor
