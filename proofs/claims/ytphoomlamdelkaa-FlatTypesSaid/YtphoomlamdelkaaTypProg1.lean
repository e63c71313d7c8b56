/-
  The program's small functions of types; slices.IndexFunc, slices.ContainsFunc at numbers, with whatever predicate.
-/
import Derived.Test.YtphoomlamdelkaaTypRef3
import Derived.BigQuiet
import Derived.Deep.QuietTactic
import Derived.Outline
namespace Go.Proofs.Ytphoomlamdelkaa
set_option linter.unusedVariables false
set_option linter.unusedSimpArgs false
open Go.ChangeShapes Go.WideShapes Go.ChangeAt Go.RowKit

def plainK (x : Ty) : Bool :=
  if x.kind = 1 then decide (x.elem = 0) && decide (x.many = 0) && decide (x.parts.length = 0)
  else if x.kind = 2 then decide (x.many = 0) && decide (x.parts.length = 0)
  else if x.kind = 4 then decide (x.elem = 0) && decide (x.many = 0)
  else if x.kind = 3 then decide (x.many = 0)
  else if x.kind = 5 then decide (x.parts.length = 0)
  else true
theorem plain_drew {w : World} {o : Obj} (n : Nat) : Below w.heap.size w ((w.alloc o).drewN n) := belowDrewN ((Below.refl _ _).alloc (Nat.le_refl _) _) n
theorem pplain_any {w : World} (r : TyR) (hl : r.parts.length ≤ 9223372036854775807) :
    Calls Try.prog 62 #[r.val] w fun e w' => e = .returned (.bool (plainK r.data)) ∧ Below w.heap.size w w' := by
  obtain ⟨κ, el, ma, pa, pc, parts⟩ := r
  simp only at hl
  unfold TyR.val
  by_cases e1 : κ = 1
  · subst e1
    go_enter Try.func62, Try.ntmps62
    go_wp2_with fail
    go_quiet (fail)
    go_wp2_with fail
    all_goals go_ret
    all_goals refine ⟨ret_bool ?_, plain_drew _⟩
    all_goals show _ = (decide (el = 0) && decide (ma = 0) && decide (parts.length = 0))
    all_goals (first | rfl | (rw [Bool.eq_iff_iff]; simp only [Bool.and_eq_true, Bool.or_eq_true, decide_eq_true_eq, beq_iff_eq, bne_iff_ne, Bool.not_eq_true', beq_eq_false_iff_ne, decide_eq_false_iff_not, Bool.false_eq_true, false_iff, true_iff, iff_false, iff_true, true_and, and_true, false_and, and_false, true_or, or_true, false_or, or_false, ne_eq]; first | done | omega | (intros; omega)) | (rw [Bool.eq_iff_iff]; simp [*]; done) | (rw [Bool.eq_iff_iff]; simp [*]; omega))
  by_cases e2 : κ = 2
  · subst e2
    go_enter Try.func62, Try.ntmps62
    go_wp2_with fail
    go_quiet (fail)
    go_wp2_with fail
    all_goals go_ret
    all_goals refine ⟨ret_bool ?_, plain_drew _⟩
    all_goals show _ = (decide (ma = 0) && decide (parts.length = 0))
    all_goals (first | rfl | (rw [Bool.eq_iff_iff]; simp only [Bool.and_eq_true, Bool.or_eq_true, decide_eq_true_eq, beq_iff_eq, bne_iff_ne, Bool.not_eq_true', beq_eq_false_iff_ne, decide_eq_false_iff_not, Bool.false_eq_true, false_iff, true_iff, iff_false, iff_true, true_and, and_true, false_and, and_false, true_or, or_true, false_or, or_false, ne_eq]; first | done | omega | (intros; omega)) | (rw [Bool.eq_iff_iff]; simp [*]; done) | (rw [Bool.eq_iff_iff]; simp [*]; omega))
  by_cases e4 : κ = 4
  · subst e4
    go_enter Try.func62, Try.ntmps62
    go_wp2_with fail
    all_goals go_ret
    all_goals refine ⟨ret_bool ?_, (Below.refl _ _).alloc (Nat.le_refl _) _⟩
    all_goals show _ = (decide (el = 0) && decide (ma = 0))
    all_goals (first | rfl | (rw [Bool.eq_iff_iff]; simp only [Bool.and_eq_true, Bool.or_eq_true, decide_eq_true_eq, beq_iff_eq, bne_iff_ne, Bool.not_eq_true', beq_eq_false_iff_ne, decide_eq_false_iff_not, Bool.false_eq_true, false_iff, true_iff, iff_false, iff_true, true_and, and_true, false_and, and_false, true_or, or_true, false_or, or_false, ne_eq]; first | done | omega | (intros; omega)) | (rw [Bool.eq_iff_iff]; simp [*]; done) | (rw [Bool.eq_iff_iff]; simp [*]; omega))
  by_cases e3 : κ = 3
  · subst e3
    go_enter Try.func62, Try.ntmps62
    go_wp2_with fail
    all_goals go_ret
    all_goals refine ⟨ret_bool ?_, (Below.refl _ _).alloc (Nat.le_refl _) _⟩
    all_goals show _ = decide (ma = 0)
    all_goals (first | rfl | (rw [Bool.eq_iff_iff]; simp only [Bool.and_eq_true, Bool.or_eq_true, decide_eq_true_eq, beq_iff_eq, bne_iff_ne, Bool.not_eq_true', beq_eq_false_iff_ne, decide_eq_false_iff_not, Bool.false_eq_true, false_iff, true_iff, iff_false, iff_true, true_and, and_true, false_and, and_false, true_or, or_true, false_or, or_false, ne_eq]; first | done | omega | (intros; omega)) | (rw [Bool.eq_iff_iff]; simp [*]; done) | (rw [Bool.eq_iff_iff]; simp [*]; omega))
  by_cases e5 : κ = 5
  · subst e5
    go_enter Try.func62, Try.ntmps62
    go_wp2_with fail
    all_goals go_ret
    all_goals refine ⟨ret_bool ?_, (Below.refl _ _).alloc (Nat.le_refl _) _⟩
    all_goals show _ = decide (parts.length = 0)
    all_goals (first | rfl | (rw [Bool.eq_iff_iff]; simp only [Bool.and_eq_true, Bool.or_eq_true, decide_eq_true_eq, beq_iff_eq, bne_iff_ne, Bool.not_eq_true', beq_eq_false_iff_ne, decide_eq_false_iff_not, Bool.false_eq_true, false_iff, true_iff, iff_false, iff_true, true_and, and_true, false_and, and_false, true_or, or_true, false_or, or_false, ne_eq]; first | done | omega | (intros; omega)) | (rw [Bool.eq_iff_iff]; simp [*]; done) | (rw [Bool.eq_iff_iff]; simp [*]; omega))
  have HO : Hid (plainK ⟨κ, el, ma, parts⟩ = true) := Lib.hid (by unfold plainK; rw [if_neg e1, if_neg e2, if_neg e4, if_neg e3, if_neg e5])
  go_enter Try.func62, Try.ntmps62
  go_wp2_with fail
  all_goals go_ret
  all_goals exact ⟨ret_bool HO.out.symm, (Below.refl _ _).alloc (Nat.le_refl _) _⟩

theorem pscalar_any {w : World} (r : TyR) :
    Calls Try.prog 51 #[r.val] w fun e w' => e = .returned (.bool (scalK r.kind)) ∧ Below w.heap.size w w' := by
  obtain ⟨κ, el, ma, pa, pc, parts⟩ := r
  unfold TyR.val
  go_enter Try.func51, Try.ntmps51
  go_wp2_with fail
  all_goals go_ret
  all_goals refine ⟨ret_bool ?_, (Below.refl _ _).alloc (Nat.le_refl _) _⟩
  all_goals show _ = (κ == 1 || κ == 2 || κ == 3)
  all_goals (first | rfl | (rw [Bool.eq_iff_iff]; simp only [Bool.and_eq_true, Bool.or_eq_true, decide_eq_true_eq, beq_iff_eq, bne_iff_ne, Bool.not_eq_true', beq_eq_false_iff_ne, decide_eq_false_iff_not, Bool.false_eq_true, false_iff, true_iff, iff_false, iff_true, true_and, and_true, false_and, and_false, true_or, or_true, false_or, or_false, ne_eq]; first | done | omega | (intros; omega)) | (rw [Bool.eq_iff_iff]; simp [*]; done) | (rw [Bool.eq_iff_iff]; simp [*]; omega))

/-- A function of the text is entered as it is called. -/
def Enters (F : FuncId) : Prop := ∀ args w, (callFunc F args).run Try.prog w = .ok (.enter F args) w
theorem enters_there : Enters 70 := fun _ _ => by kernel_rfl
theorem enters_may : Enters 64 := fun _ _ => by kernel_rfl
/-- A function value that answers by a predicate, wherever a world is as w was. -/
structure AnswersBy (w : World) (F : FuncId) (cap : Array Value) (xs : List Int) (P : Int → Bool) : Prop where
  enters : Enters F
  calls : ∀ W x, Below w.heap.size w W → x ∈ xs → Calls Try.prog F (#[.int .i64 x] ++ cap) W fun e w' => e = .returned (.bool (P x)) ∧ Below W.heap.size W w'
def SomeIndex (b : Bool) (w : World) (e : Ending) (w' : World) : Prop := ∃ r : Int, e = .returned (.int .i64 r) ∧ decide (0 ≤ r) = b ∧ Below w.heap.size w w'
theorem any_of_none {P : Int → Bool} {xs : List Int} {k : Nat} (h : AllTo (fun x => !P x) xs k) (hk : xs.length ≤ k) : xs.any P = false := by
  have := h.done hk
  rw [List.any_eq_not_all_not, this]; rfl
theorem any_of_some {P : Int → Bool} {xs : List Int} {k : Nat} (hk : k < xs.length) (hp : P (xs.getD k 0) = true) : xs.any P = true := by
  rw [List.any_eq_true]
  exact ⟨_, mem_getD (d := 0) hk, hp⟩
theorem indexFunc_any {w : World} {lo : Nat} {A : Option Addr} {c : Nat} {xs : List Int} (hh : Hdr A xs.length c) (hx : IntsAt w lo w.heap.size A xs) (F : FuncId) (cap : Array Value) (P : Int → Bool) (hf : AnswersBy w F cap xs P) :
    Calls Try.prog 71 #[.slice A xs.length c, .func (.func F) #[] cap] w (SomeIndex (xs.any P) w) := by
  have hl := Nat.le_trans hh.fit hh.cap
  unfold maxLen at hl
  have HX := Lib.hid hx
  have HF := Lib.hid hf
  have eg := hf.enters
  unfold Enters at eg
  clear hx hh hf
  go_enter Try.func71, Try.ntmps71
  go_wp2_with fail
  go_loopw [8] (fun i wr => ∃ k : Nat, k ≤ xs.length ∧ i = .int .i64 k ∧ AllTo (fun x => !P x) xs k ∧ Below w.heap.size w wr) (fun i _ => xs.length - (intOf i).toNat)
  case atStart => exact ⟨0, Nat.zero_le _, rfl, AllTo.zero _ _, Below.refl _ _⟩
  case round =>
    obtain ⟨k, hk, rfl, hall, hbel⟩ := hrel
    have HA := Lib.hid hall
    have HB := Lib.hid hbel
    clear hall hbel
    by_cases hlt : k < xs.length
    · obtain ⟨b, off, x, rfl, hcell, HE⟩ := (HX.out.keep HB.out).cell hlt
      have hxm : x ∈ xs := by have := mem_getD (d := (0 : Int)) hlt; rwa [HE.out] at this
      have HC := Lib.hid (HF.out.calls wr x HB.out hxm)
      clear hxm
      cases hp : P x with
      | true =>
        rw [hp] at HC
        have HP := Lib.hid hp
        clear hp
        go_wp2_with fail
        refine HC.out.mono ?_
        rintro e w1 ⟨rfl, hb1⟩
        have HB1 := Lib.hid (HB.out.trans (hb1.mono HB.out.size))
        clear hb1
        go_wp2_with fail
        go_ret
        exact ⟨_, rfl, by rw [any_of_some hlt (by rw [HE.out]; exact HP.out)]; simp, HB1.out⟩
      | false =>
        rw [hp] at HC
        have HP := Lib.hid hp
        clear hp
        go_wp2_with fail
        refine HC.out.mono ?_
        rintro e w1 ⟨rfl, hb1⟩
        have HB1 := Lib.hid (HB.out.trans (hb1.mono HB.out.size))
        clear hb1
        go_wp2_with fail
        go_roundw
        case rel => exact ⟨k + 1, by omega, by go_num, HA.out.step (d := 0) hlt (by rw [HE.out, HP.out]; rfl), HB1.out⟩
        case measure => simp [intOf]; omega
    · go_wp2_with fail
      go_ret
      exact ⟨_, rfl, by rw [any_of_none HA.out (by omega)]; rfl, HB.out⟩
theorem containsFunc_any {w : World} {lo : Nat} {A : Option Addr} {c : Nat} {xs : List Int} (hh : Hdr A xs.length c) (hx : IntsAt w lo w.heap.size A xs) (F : FuncId) (cap : Array Value) (P : Int → Bool) (hf : AnswersBy w F cap xs P) :
    Calls Try.prog 63 #[.slice A xs.length c, .func (.func F) #[] cap] w fun e w' => e = .returned (.bool (xs.any P)) ∧ Below w.heap.size w w' := by
  have HI := Lib.hid (indexFunc_any hh hx F cap P hf)
  clear hh hx hf
  go_enter Try.func63, Try.ntmps63
  go_wp2_with fail
  refine HI.out.mono ?_
  rintro e w1 ⟨r, rfl, hr, hb1⟩
  have HR := Lib.hid hr
  have HB := Lib.hid hb1
  clear hr hb1
  go_wp2_with fail
  go_ret
  exact ⟨ret_bool HR.out, HB.out⟩

/-- there's predicate. -/
theorem there1_any {w : World} {g : Nat} (x m : Int) (hc : w.cell? ⟨g, 0, none⟩ = some (.int .i64 m)) :
    Calls Try.prog 70 #[.int .i64 x, .pointer (some ⟨g, 0, none⟩)] w fun e w' => e = .returned (.bool (!lowP m x)) ∧ Below w.heap.size w w' := by
  go_enter Try.func70, Try.ntmps70
  go_wp2_with fail
  all_goals go_ret
  all_goals refine ⟨ret_bool ?_, Below.refl _ _⟩
  all_goals unfold lowP
  all_goals (first | rfl | (rw [Bool.eq_iff_iff]; simp only [Bool.and_eq_true, Bool.or_eq_true, decide_eq_true_eq, beq_iff_eq, bne_iff_ne, Bool.not_eq_true', beq_eq_false_iff_ne, decide_eq_false_iff_not, Bool.false_eq_true, false_iff, true_iff, iff_false, iff_true, true_and, and_true, false_and, and_false, true_or, or_true, false_or, or_false, ne_eq]; first | done | omega | (intros; omega)) | (rw [Bool.eq_iff_iff]; simp [*]; done) | (rw [Bool.eq_iff_iff]; simp [*]; omega))
theorem there_any {w : World} {lo : Nat} {A : Option Addr} {c : Nat} {xs : List Int} (hh : Hdr A xs.length c) (hx : IntsAt w lo w.heap.size A xs) (m : Int) :
    Calls Try.prog 50 #[.int .i64 m, .slice A xs.length c] w fun e w' => e = .returned (.bool (lowerB xs m)) ∧ Below w.heap.size w w' := by
  have hb0 : Below w.heap.size w (w.alloc (.cells #[.int .i64 m] 3)) := (Below.refl _ _).alloc (Nat.le_refl _) _
  have hA : AnswersBy (w.alloc (.cells #[.int .i64 m] 3)) 70 #[.pointer (some ⟨w.heap.size, 0, none⟩)] xs (fun x => !lowP m x) := by
    refine ⟨enters_there, ?_⟩
    intro W x hb _
    exact there1_any x m (((Blk.new w 3 #[.int .i64 m]).beneath hb).cells 0)
  have HC := Lib.hid (containsFunc_any hh ((hx.keep hb0).more (Nat.le_refl _) hb0.size) _ _ _ hA)
  have HB := Lib.hid hb0
  clear hh hx hb0 hA
  have HL : Hid (xs.any (fun x => !lowP m x) = !lowerB xs m) := Lib.hid (by unfold lowerB; rw [List.any_eq_not_all_not]; simp [lowP])
  go_enter Try.func50, Try.ntmps50
  go_wp2_with fail
  refine HC.out.mono ?_
  rintro e w1 ⟨rfl, hb1⟩
  have HB1 := Lib.hid (HB.out.trans (hb1.mono HB.out.size))
  clear hb1
  go_wp2_with fail
  go_ret
  exact ⟨ret_bool (by rw [HL.out, Bool.not_not]), HB1.out⟩
end Go.Proofs.Ytphoomlamdelkaa
