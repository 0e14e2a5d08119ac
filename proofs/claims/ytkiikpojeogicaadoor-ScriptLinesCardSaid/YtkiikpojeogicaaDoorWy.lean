/-
  DERIVED. The line of an act: name, num, Line.
-/
import Derived.Test.YtkiikpojeogicaaDoorWx
import Derived.Test.YtkiikpojeogicaaDoorPm
import Derived.Test.YtkiikpojeogicaaDoorWh
import Derived.Test.YtkiikpojeogicaaDoorR8
namespace Go.Proofs.YtkiikpojeogicaaDoor
open Go.RowKit Go.Sort Go.Proofs.YtkiikpojeogicaaDoorW.PrintWords Go.Proofs.YtkiikpojeogicaaDoorW.PrintMore Go.Proofs.YtkiikpojeogicaaDoor.PScriptParses
open Scr

theorem infoString : (Tryd.prog.info? 9).map (fun i => (i.zero, i.size, i.bytes)) = some (some (.string .empty), 1, 16) := by kernel_rfl

set_option maxRecDepth 100000 in
set_option maxHeartbeats 4000000 in
theorem name_any (k : Int) (h0 : 0 ≤ k) (h1 : k < 256) (w : World) : Calls Tryd.prog 15 #[.int .u8 k] w fun e w' => e = .returned (.string ⟨(kindName k).toArray⟩) ∧ Below w.heap.size w w' := by
  by_cases hk : k < 11
  · rcases (by omega : k = 0 ∨ k = 1 ∨ k = 2 ∨ k = 3 ∨ k = 4 ∨ k = 5 ∨ k = 6 ∨ k = 7 ∨ k = 8 ∨ k = 9 ∨ k = 10) with rfl | rfl | rfl | rfl | rfl | rfl | rfl | rfl | rfl | rfl | rfl
    all_goals
      go_enter Tryd.func15, Tryd.ntmps15
      go_wp2
      go_ret
      exact ⟨rfl, (Below.refl _ w).alloc (Nat.le_refl _) _⟩
  · have hk' : (11 : Int) ≤ k := by omega
    have hz : kindName k = [] := by
      unfold kindName
      repeat rw [if_neg (by omega)]
    rw [hz]
    go_enter Tryd.func15, Tryd.ntmps15
    go_wp2
    go_ret
    exact ⟨rfl, (Below.refl _ w).alloc (Nat.le_refl _) _⟩

set_option maxRecDepth 100000 in
theorem num_any (n : Int) (h0 : -9223372036854775808 ≤ n) (h1 : n ≤ 9223372036854775807) (w : World) (hG : Glb w) : Calls Tryd.prog 16 #[.int .i64 n] w fun e w' => e = .returned (.string ⟨(Lib.itoa n).toArray⟩) ∧ Below w.heap.size w w' := by
  go_enter Tryd.func16, Tryd.ntmps16
  go_wp2_with (go_at_call 30; refine (Tryd.strconv_Itoa n h0 h1 _ hG.pow).mono ?_; rintro e w' ⟨rfl, k, os, rfl⟩)
  go_ret
  exact ⟨rfl, Lib.below_grow _ _ (Nat.le_refl _) _ _⟩

theorem formatUint_int (n : Int) (h0 : 0 ≤ n) (h1 : n < 18446744073709551616) (w : World) (hG : Glb w) :
    Calls Tryd.prog 17 #[.int .u64 n, .int .i64 10] w fun e w' => e = .returned (.string ⟨(Lib.decDigits n.toNat).toArray⟩) ∧ Below w.heap.size w w' := by
  obtain ⟨u, rfl⟩ : ∃ u : Nat, n = u := ⟨n.toNat, by omega⟩
  rw [Int.toNat_natCast]
  exact formatUint_any u (by omega) w hG

/-- A row of one word. -/
theorem own_one (w : World) (s : ByteArray) (B : Nat) (hB : B ≤ w.heap.size) : (w.alloc (.cells #[.string s] 9)).ownsRow B 9 1 (.slice (some ⟨w.heap.size, 0, none⟩) 1 1) 1 [.string s] :=
  ⟨rfl, .inr ⟨w.heap.size, 1, #[.string s], rfl, hB, heap_new w _, Nat.le_refl _, by unfold maxLen; decide, rfl, rfl⟩⟩
theorem own_below {w w' : World} {base : Nat} {e : TypeId} {size n : Nat} {v : Value} {xs : List Value} (h : w.ownsRow base e size v n xs) (hb : Below w.heap.size w w') : w'.ownsRow base e size v n xs := by
  refine ⟨h.1, ?_⟩
  rcases h.2 with h0 | ⟨g, cap, cur, hv, hg, hh, h1⟩
  · exact .inl h0
  · exact .inr ⟨g, cap, cur, hv, hg, (hb.block g (lt_of_block hh)).trans hh, h1⟩

/-- Join, of a row of the call's own. -/
theorem join_line (a : ActD) (w : World) (B : Nat) (v : Value) (n : Nat) (xs : List ByteArray) (h : w.ownsRow B 9 1 v n (xs.map Value.string)) (hn : n = xs.length) (h0 : 0 < n) (hm : n ≤ 10)
    (hx : xs.map (·.data.toList) = kindName a.kind :: lineRest a) (hs : (lineTxt a).length ≤ 5000) :
    Calls Tryd.prog 18 #[v, .string ⟨#[32]⟩] w fun e w' => e = .returned (.string ⟨(lineTxt a).toArray⟩) ∧ Below w.heap.size w w' := by
  rcases h.2 with ⟨_, h0'⟩ | ⟨g, cap, cur, rfl, hg, hh, h1, h2, h3, h4⟩
  · omega
  · subst hn
    have he : Lib.join (xs.map (·.data.toList)) [32] = lineTxt a := by rw [hx]; rfl
    have := join_any g 0 cap xs ⟨#[32]⟩ w (fun j x hj => ?_) (lt_of_block hh) (by omega) h1 (by show (Lib.join _ [32]).length ≤ _; rw [he]; omega)
    · have e2 : Lib.join (xs.map (·.data.toList)) ((⟨#[32]⟩ : ByteArray).data.toList) = lineTxt a := he
      rw [e2] at this
      exact this
    · have := h.cells (g := g) rfl j (.string x) (by simp [hj])
      rw [Addr.add_lit] at this
      exact this

/-- What Line gives: the line of an act, if what it tells is that act. -/
def LineP (w : World) (a : ActD) (E : Ending) (W : World) : Prop :=
  (readOf (lineTxt a) = (a, 0) ∧ E = .returned (.tuple #[.string ⟨(lineTxt a).toArray⟩, .bool true]) ∨ ¬ readOf (lineTxt a) = (a, 0) ∧ E = .returned (.tuple #[.string ⟨#[]⟩, .bool false])) ∧ Below w.heap.size w W

/-! ### What holds through a region: three cells, and that nothing below is touched -/
section
variable {p q g : Addr} {u v x : Value} {W0 W W1 : World}
abbrev Thru (p q g : Addr) (u v x : Value) (W0 W : World) : Prop := W.cell? p = some u ∧ W.cell? q = some v ∧ W.cell? g = some x ∧ Below W0.heap.size W0 W
theorem thru_call (h : Thru p q g u v x W0 W) (hb : Below W.heap.size W W1) : Thru p q g u v x W0 W1 :=
  ⟨(hb.cell (World.block_lt_of_cell? _ _ h.1)).trans h.1, (hb.cell (World.block_lt_of_cell? _ _ h.2.1)).trans h.2.1, (hb.cell (World.block_lt_of_cell? _ _ h.2.2.1)).trans h.2.2.1, h.2.2.2.trans (hb.mono h.2.2.2.size)⟩
theorem thru_alloc (h : Thru p q g u v x W0 W) (o : Obj) : Thru p q g u v x W0 (W.alloc o) := thru_call h ((Below.refl _ W).alloc (Nat.le_refl _) o)
theorem thru_drew (h : Thru p q g u v x W0 W) : Thru p q g u v x W0 W.drew := thru_call h (Below.refl _ W).drew
theorem below_grown (h : W.grownBy W1 none) : Below W.heap.size W W1 := (Below.refl _ W).grown h (Nat.le_refl _) (fun k hk => by cases hk)
theorem thru_grown (h : Thru p q g u v x W0 W) (hg : W.grownBy W1 none) : Thru p q g u v x W0 W1 := thru_call h (below_grown hg)
theorem thru_below {w : World} (hw : Below w.heap.size w W0) (h : Thru p q g u v x W0 W) : Below w.heap.size w W := hw.trans (h.2.2.2.mono hw.size)
theorem thru_glb {w : World} (hG : Glb w) (hw : Below w.heap.size w W0) (h : Thru p q g u v x W0 W) : Glb W := hG.below (thru_below hw h) hG.size
end
theorem bytes_later {A : Option Addr} {n c : Nat} {xs : List Int} {w W : World} (hv : Kd.V (Kd.int .u8) 5 w 0 (fun _ => True) (.slice A n c) xs) (hb : Below w.heap.size w W) : Kd.V (Kd.int .u8) 5 W 0 (fun _ => True) (.slice A n c) xs :=
  Kd.V_mono (Kd.V_step (w1 := W) (Kd.V_bound hv) (fun k hk _ => hb.block k hk.2)) (fun _ _ => trivial)
/-- The cells of a new row. -/
theorem cells_new (W : World) (cs : List Value) (t : TypeId) (j : Nat) (u : Value) (h : cs[j]? = some u) : (W.alloc (.cells cs.toArray t)).cell? (Addr.add ⟨W.heap.size, 0, none⟩ j) = some u := by
  have hh := heap_new W (.cells cs.toArray t)
  rw [Addr.add_lit, Nat.zero_add]
  unfold World.cell?
  simp only []
  rw [hh]
  simpa using h
/-- Are two acts the same? -/
theorem same_bool (a b : ActD) (ha : ∀ x ∈ a.data, 0 ≤ x ∧ x < 256) (hb : ∀ x ∈ b.data, 0 ≤ x ∧ x < 256) :
    ∃ r, script_same.f a.kind a.mode a.p a.n a.version a.data b.kind b.mode b.p b.n b.version b.data = some r ∧ (r = true ↔ a = b) := by
  obtain ⟨k, m, p, n, v, d⟩ := a
  obtain ⟨k', m', p', n', v', d'⟩ := b
  unfold script_same.f
  simp only [ActD.mk.injEq]
  by_cases h1 : k = k'
  · rw [if_pos h1]
    by_cases h2 : m = m'
    · rw [if_pos h2]
      by_cases h3 : p = p'
      · rw [if_pos h3]
        by_cases h4 : n = n'
        · rw [if_pos h4]
          by_cases h5 : v = v'
          · rw [if_pos h5]
            refine ⟨_, rfl, ?_⟩
            rw [beq_iff_eq, Lib.strOfNums_toList, Lib.strOfNums_toList]
            constructor
            · exact fun e => ⟨h1, h2, h3, h4, h5, bytes_inj ha hb e⟩
            · exact fun e => by rw [e.2.2.2.2.2]
          · rw [if_neg h5]; exact ⟨_, rfl, by simp [h5]⟩
        · rw [if_neg h4]; exact ⟨_, rfl, by simp [h4]⟩
      · rw [if_neg h3]; exact ⟨_, rfl, by simp [h3]⟩
    · rw [if_neg h2]; exact ⟨_, rfl, by simp [h2]⟩
  · rw [if_neg h1]; exact ⟨_, rfl, by simp [h1]⟩
theorem own_slice {w : World} {base : Nat} {e : TypeId} {size n : Nat} {v : Value} {xs : List Value} (h : w.ownsRow base e size v n xs) (hn : 0 < n) : ∃ g c, v = .slice (some ⟨g, 0, none⟩) n c := by
  rcases h.2 with ⟨_, h0⟩ | ⟨g, cap, cur, hv, _⟩
  · omega
  · exact ⟨g, cap, hv⟩
theorem lt_of_own {w : World} {base g : Nat} {e : TypeId} {size n c : Nat} {xs : List Value} (h : w.ownsRow base e size (.slice (some ⟨g, 0, none⟩) n c) n xs) : g < w.heap.size := by
  rcases h.2 with ⟨h0, _⟩ | ⟨g', cap, cur, hv, _, hh, _⟩
  · cases h0
  · cases hv; exact lt_of_block hh
theorem own_two {w : World} {B e : Nat} {v : Value} {x y : ByteArray} (h : w.ownsRow B e 1 v (1 + 1) ([.string x] ++ [.string y])) : w.ownsRow B e 1 v 2 ([x, y].map Value.string) := h
theorem own_three {w : World} {B e : Nat} {v : Value} {x y z : ByteArray} (h : w.ownsRow B e 1 v (1 + 2) ([.string x] ++ [.string y, .string z])) : w.ownsRow B e 1 v 3 ([x, y, z].map Value.string) := h
theorem own_four {w : World} {B e : Nat} {v : Value} {x y z t : ByteArray} (h : w.ownsRow B e 1 v (1 + 3) ([.string x] ++ [.string y, .string z, .string t])) : w.ownsRow B e 1 v 4 ([x, y, z, t].map Value.string) := h
theorem cell_of_own1 {w : World} {base g : Nat} {e : TypeId} {n c : Nat} {x : Value} {xs : List Value} (h : w.ownsRow base e 1 (.slice (some ⟨g, 0, none⟩) n c) n (x :: xs)) : w.cell? ⟨g, 0, none⟩ = some x := h.cells (g := g) rfl 0 x rfl
theorem thru_old {p q : Addr} {g : Nat} {u v x : Value} {W0 W : World} (h : Thru p q ⟨g, 0, none⟩ u v x W0 W) : ∀ b, some (⟨g, 0, none⟩ : Addr) = some b → ∀ j y, [x][j]? = some y → W.cell? (b.add j) = some y := by
  intro b hb j y hj
  cases hb
  match j, hj with
  | 0, hj => cases hj; exact h.2.2.1
theorem txt_size {a : ActD} (hA : ActOk a) (hd : a.data.length ≤ 2000) : (⟨(lineTxt a).toArray⟩ : ByteArray).size ≤ 2147483648 := by
  have := lineTxt_le hA hd
  simp only [ByteArray.size, List.size_toArray]
  omega
theorem txt_data (l : List UInt8) : (⟨l.toArray⟩ : ByteArray).data.toList = l := rfl
end Go.Proofs.YtkiikpojeogicaaDoor
