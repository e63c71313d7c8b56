/-
  slices.Clone, of whole numbers and of types.
-/
import Derived.Test.YtcbhmpkginebaaaDoorMg14
import Derived.Test.YtcbhmpkginebaaaDoorMfTypTwin
import Derived.Lib.SliceRun
namespace Go.Proofs.YtcbhmpkginebaaaDoor
set_option linter.unusedVariables false
set_option linter.unusedSimpArgs false
open Go.Instr
open Go.ChangeShapes Go.WideShapes Go.ChangeAt Go.RowKit

def ClonedInts (xs : List Int) (w : World) (e : Ending) (w' : World) : Prop := ∃ v, e = .returned v ∧ OwnInts w' w.heap.size v xs ∧ Below w.heap.size w w'
def SomeRow (rows : List TyR) (w : World) (e : Ending) (w' : World) : Prop := ∃ v, e = .returned v ∧ w'.ownsRow w.heap.size 78 4 v rows.length (rows.flatMap TyR.cells4) ∧ Below w.heap.size w w'
theorem cloneInts_any {w : World} {lo B : Nat} {A : Option Addr} {c : Nat} {xs : List Int} (hh : Hdr A xs.length c) (hx : IntsAt w lo B A xs) (hB : B ≤ w.heap.size) (hl : xs.length ≤ 1000) :
    Calls Tryd.prog 56 #[.slice A xs.length c] w (ClonedInts xs w) := by
  cases A with
  | none =>
    obtain ⟨h0, hc⟩ := hh.nil rfl
    obtain rfl := List.eq_nil_of_length_eq_zero h0
    subst hc
    clear hh hx hl h0
    have qn : ∀ (w : World) (a : Option Addr) (n c n' c' : Nat), (binOp .eql 22 (.slice a n c) (.slice none n' c')).run Tryd.prog w = .ok (.bool a.isNone) w := fun w a n c n' c' => Lib.run_eql_slice_nil w _ _ a n c n' c' Tryd.underlying22
    go_enter Tryd.func56, Tryd.ntmps56
    go_wp2_with fail
    go_ret
    exact ⟨_, rfl, OwnInts.nil _ _, Below.refl _ _⟩
  | some ad =>
    have hb0 : Below w.heap.size w (w.alloc (.cells #[] 3)) := (Below.refl _ _).alloc (Nat.le_refl _) _
    have HX := Lib.hid ((hx.more (Nat.le_refl _) hB).keep hb0)
    have HB := Lib.hid hb0
    have HZ : Hid (OwnInts (w.alloc (.cells #[] 3)) w.heap.size (.slice (some ⟨w.heap.size, 0, none⟩) 0 0) []) := Lib.hid (OwnInts.zero _ _ _ (Nat.le_refl _) rfl)
    clear hx hh hb0
    have qn : ∀ (w : World) (a : Option Addr) (n c n' c' : Nat), (binOp .eql 22 (.slice a n c) (.slice none n' c')).run Tryd.prog w = .ok (.bool a.isNone) w := fun w a n c n' c' => Lib.run_eql_slice_nil w _ _ a n c n' c' Tryd.underlying22
    go_enter Tryd.func56, Tryd.ntmps56
    go_wp2_with (at_builtin; refine wpList_appN rfl (.tmp 5) (.tmp 6) rfl w.heap.size _ _ _ [] rfl HZ.out (some ad) xs.length c xs rfl rfl (fun h => by cases h) HX.out (by simp; omega) (by simp) ?_; intro v1 w1 hown1 hg1; refine pause ?_)
    have HB1 := Lib.hid (HB.out.grown hg1 (by simp) (fun k hk => by have : w.heap.size = k := Option.some.inj hk; omega))
    rw [List.nil_append] at hown1
    have HO := Lib.hid hown1
    clear hown1 hg1
    refine resume ?_
    go_wp2_with fail
    go_ret
    exact ⟨_, rfl, HO.out, HB1.out⟩
theorem flat_len (rows : List TyR) : (rows.flatMap TyR.cells4).length = rows.length * 4 := by
  induction rows with
  | nil => rfl
  | cons r rs ih => rw [List.flatMap_cons, List.length_append, ih, List.length_cons]; show 4 + _ = _; omega
theorem typs_news {w : World} {lo B : Nat} {A : Option Addr} {rows : List TyR} (h : TypsAt w lo B A rows) : ∀ ad, A = some ad → ∀ j u, (rows.flatMap TyR.cells4)[j]? = some u → w.cell? (ad.add j) = some u := by
  intro ad hA q u hq
  obtain ⟨hlt, hu⟩ := List.getElem?_eq_some_iff.1 hq
  rw [flat_len] at hlt
  obtain ⟨b, off, e, h1, h2, hc⟩ := h.cells (by omega)
  rw [hA] at e
  injection e with e
  subst e
  rw [add_lit]
  have hi : q / 4 < rows.length := by omega
  have hj : q % 4 < 4 := by omega
  have hcc := hc (q / 4) hi (q % 4) hj
  have hq2 : off + q / 4 * 4 + q % 4 = off + q := by omega
  rw [hq2] at hcc
  rw [hcc, ← hu]
  have hf := flat_getD TyR.cells4 4 (fun _ => rfl) default rows (q / 4) (q % 4) hi hj
  rw [show q / 4 * 4 + q % 4 = q by omega, List.getD_eq_getElem?_getD, hq] at hf
  rw [show (rows.flatMap TyR.cells4)[q] = u from hu]
  have hf2 : u = ((rows.getD (q / 4) default).cells4).getD (q % 4) undef := hf
  rw [hf2]
  generalize q % 4 = j at hj
  match j, hj with
  | 0, _ => rfl
  | 1, _ => rfl
  | 2, _ => rfl
  | 3, _ => rfl
theorem flat_one (rows : List TyR) : ∀ u ∈ rows.flatMap TyR.cells4, u.oneCell' = true := by
  intro u hu
  obtain ⟨r, _, hr⟩ := List.mem_flatMap.1 hu
  simp only [TyR.cells4, List.mem_cons, List.not_mem_nil, or_false] at hr
  rcases hr with rfl | rfl | rfl | rfl <;> rfl
theorem wpList_appRows {w : World} {ops : Array Oper} {rest : List Oper} {o : Oper} {a : Act} {Q : Exit → Act → World → Prop} (hgd : o.guard = none) (s x : Operand)
    (ho : o.op = .call { callee := .builtin .append, args := #[s, x], argTypes := #[32, 32] })
    (base lo B : Nat) (v : Value) (hs : a.eval s = v) (hown : w.ownsRow base 78 4 v 0 []) (A : Option Addr) (c : Nat) (rows : List TyR) (hx : a.eval x = .slice A rows.length c) (hA : A = none → rows.length = 0 ∧ c = 0) (hys : TypsAt w lo B A rows)
    (hlen : rows.length ≤ 1000000) (hbase : base ≤ w.heap.size)
    (h : ∀ v' w', w'.ownsRow base 78 4 v' rows.length (rows.flatMap TyR.cells4) → w.grownBy w' v.ownBlock → wpList Tryd.prog ops Q rest (a.put o.dst v') w') : wpList Tryd.prog ops Q (o :: rest) a w := by
  obtain ⟨i0, hi, hz0, hz1, hz2⟩ := info_parts typeInfo
  refine wpList_app hgd s x 32 ho base 78 i0 _ 4 48 Tryd.underlying32 hi hz0 hz1 hz2 rfl (by decide) v 0 [] hs hown A rows.length c (rows.flatMap TyR.cells4) hx hA (flat_len rows) (typs_news hys) (flat_one rows) ?_ ?_ hbase ?_
  · unfold maxLen; omega
  · omega
  · intro v' w' h1 h2
    rw [Nat.zero_add, List.nil_append] at h1
    exact h v' w' h1 h2
theorem cloneTys_any {w : World} {lo B : Nat} {A : Option Addr} {c : Nat} {rows : List TyR} (hh : Hdr A rows.length c) (hx : TypsAt w lo B A rows) (hB : B ≤ w.heap.size) (hl : rows.length ≤ 1000) :
    Calls Tryd.prog 78 #[.slice A rows.length c] w (SomeRow rows w) := by
  cases A with
  | none =>
    obtain ⟨h0, hc⟩ := hh.nil rfl
    obtain rfl := List.eq_nil_of_length_eq_zero h0
    subst hc
    clear hh hx hl h0
    have qn : ∀ (w : World) (a : Option Addr) (n c n' c' : Nat), (binOp .eql 32 (.slice a n c) (.slice none n' c')).run Tryd.prog w = .ok (.bool a.isNone) w := fun w a n c n' c' => Lib.run_eql_slice_nil w _ _ a n c n' c' Tryd.underlying32
    go_enter Tryd.func78, Tryd.ntmps78
    go_wp2_with fail
    go_ret
    exact ⟨_, rfl, World.ownsRow_nil _ _ _ _, Below.refl _ _⟩
  | some ad =>
    have hb0 : Below w.heap.size w (w.alloc (.cells #[] 78)) := (Below.refl _ _).alloc (Nat.le_refl _) _
    have HX := Lib.hid ((hx.more (Nat.le_refl _) hB).keep hb0)
    have HB := Lib.hid hb0
    have HZ : Hid ((w.alloc (.cells #[] 78)).ownsRow w.heap.size 78 4 (.slice (some ⟨w.heap.size, 0, none⟩) 0 0) 0 []) := Lib.hid (World.ownsRow_lit w #[] 0 (Nat.le_refl _) (by unfold maxLen; omega) rfl)
    clear hx hh hb0
    have qn : ∀ (w : World) (a : Option Addr) (n c n' c' : Nat), (binOp .eql 32 (.slice a n c) (.slice none n' c')).run Tryd.prog w = .ok (.bool a.isNone) w := fun w a n c n' c' => Lib.run_eql_slice_nil w _ _ a n c n' c' Tryd.underlying32
    go_enter Tryd.func78, Tryd.ntmps78
    go_wp2_with (at_builtin; refine wpList_appRows rfl (.tmp 5) (.tmp 6) rfl w.heap.size _ _ _ rfl HZ.out (some ad) c rows rfl (fun h => by cases h) HX.out (by omega) (by simp) ?_; intro v1 w1 hown1 hg1; refine pause ?_)
    have HB1 := Lib.hid (HB.out.grown hg1 (by simp) (fun k hk => by have : w.heap.size = k := Option.some.inj hk; omega))
    have HO := Lib.hid hown1
    clear hown1 hg1
    refine resume ?_
    go_wp2_with fail
    go_ret
    exact ⟨_, rfl, HO.out, HB1.out⟩
end Go.Proofs.YtcbhmpkginebaaaDoor
