/-
  The reference's words for shapes: Count, Number, Where, Regs. And what stands on it: ShRef7, ShRef8, TypProg1, TypProg2, TypProg3, TypProg4, TypProg5.
-/
import Derived.Test.YtbffebcjimhapaaGreatDoorMg6
import Derived.Test.YtbffebcjimhapaaGreatDoorMg7
import Derived.Test.YtbffebcjimhapaaGreatDoorMg23
import Derived.OwnWalk
import Derived.BigQuiet
import Derived.Deep.QuietTactic
import Derived.Outline
namespace Go.Proofs.YtbffebcjimhapaaGreatDoor
set_option linter.unusedVariables false
set_option linter.unusedSimpArgs false
open Go.ChangeShapes Go.WideShapes Go.ChangeAt Go.RowKit
structure FunGood (p : PrR) (k : Nat) (f : FuR) : Prop where
 lt : k < p.funs.length
 get : p.funs.getD k default = f
 s0 : 0 ≤ f.sig
 s1 : f.sig < p.types.length
 b0 : 1 ≤ f.blocks.length
 b1 : f.blocks.length ≤ 16
 many : manyB (f.blocks.map BlR.data) ≤ 128
theorem BlksAt.take {w : World} {A : Option Addr} {c : Nat} {rows : List BlR} (h : BlksAt w A c rows) {n : Nat} (hn : n ≤ rows.length) : BlksAt w A c (rows.take n) := by
 have hlen : (rows.take n).length = n := by rw [List.length_take]; omega
 refine ⟨⟨by rw [hlen]; exact Nat.le_trans hn h.hdr.fit, h.hdr.cap, fun e => ⟨by have := (h.hdr.nil e).1; rw [hlen]; omega, (h.hdr.nil e).2⟩⟩, ?_, fun r hr => h.ok r (List.mem_of_mem_take hr)⟩
 rw [hlen]
 intro hp
 obtain ⟨b, off, hA, h1, h2, hc⟩ := h.cells (by omega)
 refine ⟨b, off, hA, h1, h2, fun i hi j hj => ?_⟩
 have := hc i (by omega) j hj
 rw [this]
 show some ((rows.getD i default).cell j) = some (((rows.take n).getD i default).cell j)
 rw [List.getD_eq_getElem?_getD, List.getD_eq_getElem?_getD, List.getElem?_take_of_lt hi]
def whereI (pars : Nat) (l : List PBlk) (r : Int) : Int × Int :=
 if pars ≤ r ∧ r < (pars + manyB l : Nat) then (((whereB l 0 (r.toNat - pars)).1 : Nat), ((whereB l 0 (r.toNat - pars)).2 : Nat)) else (-1, r)
def plainK (x : Ty) : Bool :=
 if x.kind = 1 then decide (x.elem = 0) && decide (x.many = 0) && decide (x.parts.length = 0)
 else if x.kind = 2 then decide (x.many = 0) && decide (x.parts.length = 0)
 else if x.kind = 4 then decide (x.elem = 0) && decide (x.many = 0)
 else if x.kind = 3 then decide (x.many = 0)
 else if x.kind = 5 then decide (x.parts.length = 0)
 else true
theorem plain_drew {w : World} {o : Obj} (n : Nat) : Below w.heap.size w ((w.alloc o).drewN n) := belowDrewN ((Below.refl _ _).alloc (Nat.le_refl _) _) n
theorem pplain_any {w : World} (r : TyR) (hl : r.parts.length ≤ 9223372036854775807) :
    Calls Tryz.prog 125 #[r.val] w fun e w' => e = .returned (.bool (plainK r.data)) ∧ Below w.heap.size w w' := by
 obtain ⟨κ, el, ma, pa, pc, parts⟩ := r
 simp only at hl
 unfold TyR.val
 by_cases e1 : κ = 1
 · subst e1
   go_enter Tryz.func125, Tryz.ntmps125
   go_wp2_with fail
   go_quiet (fail)
   go_wp2_with fail
   all_goals go_ret
   all_goals refine ⟨ret_bool ?_, plain_drew _⟩
   all_goals show _ = (decide (el = 0) && decide (ma = 0) && decide (parts.length = 0))
   all_goals (first | rfl | (rw [Bool.eq_iff_iff]; simp only [Bool.and_eq_true, Bool.or_eq_true, decide_eq_true_eq, beq_iff_eq, bne_iff_ne, Bool.not_eq_true', beq_eq_false_iff_ne, decide_eq_false_iff_not, Bool.false_eq_true, false_iff, true_iff, iff_false, iff_true, true_and, and_true, false_and, and_false, true_or, or_true, false_or, or_false, ne_eq]; first | done | omega | (intros; omega)) | (rw [Bool.eq_iff_iff]; simp [*]; done) | (rw [Bool.eq_iff_iff]; simp [*]; omega))
 by_cases e2 : κ = 2
 · subst e2
   go_enter Tryz.func125, Tryz.ntmps125
   go_wp2_with fail
   go_quiet (fail)
   go_wp2_with fail
   all_goals go_ret
   all_goals refine ⟨ret_bool ?_, plain_drew _⟩
   all_goals show _ = (decide (ma = 0) && decide (parts.length = 0))
   all_goals (first | rfl | (rw [Bool.eq_iff_iff]; simp only [Bool.and_eq_true, Bool.or_eq_true, decide_eq_true_eq, beq_iff_eq, bne_iff_ne, Bool.not_eq_true', beq_eq_false_iff_ne, decide_eq_false_iff_not, Bool.false_eq_true, false_iff, true_iff, iff_false, iff_true, true_and, and_true, false_and, and_false, true_or, or_true, false_or, or_false, ne_eq]; first | done | omega | (intros; omega)) | (rw [Bool.eq_iff_iff]; simp [*]; done) | (rw [Bool.eq_iff_iff]; simp [*]; omega))
 by_cases e4 : κ = 4
 · subst e4
   go_enter Tryz.func125, Tryz.ntmps125
   go_wp2_with fail
   all_goals go_ret
   all_goals refine ⟨ret_bool ?_, (Below.refl _ _).alloc (Nat.le_refl _) _⟩
   all_goals show _ = (decide (el = 0) && decide (ma = 0))
   all_goals (first | rfl | (rw [Bool.eq_iff_iff]; simp only [Bool.and_eq_true, Bool.or_eq_true, decide_eq_true_eq, beq_iff_eq, bne_iff_ne, Bool.not_eq_true', beq_eq_false_iff_ne, decide_eq_false_iff_not, Bool.false_eq_true, false_iff, true_iff, iff_false, iff_true, true_and, and_true, false_and, and_false, true_or, or_true, false_or, or_false, ne_eq]; first | done | omega | (intros; omega)) | (rw [Bool.eq_iff_iff]; simp [*]; done) | (rw [Bool.eq_iff_iff]; simp [*]; omega))
 by_cases e3 : κ = 3
 · subst e3
   go_enter Tryz.func125, Tryz.ntmps125
   go_wp2_with fail
   all_goals go_ret
   all_goals refine ⟨ret_bool ?_, (Below.refl _ _).alloc (Nat.le_refl _) _⟩
   all_goals show _ = decide (ma = 0)
   all_goals (first | rfl | (rw [Bool.eq_iff_iff]; simp only [Bool.and_eq_true, Bool.or_eq_true, decide_eq_true_eq, beq_iff_eq, bne_iff_ne, Bool.not_eq_true', beq_eq_false_iff_ne, decide_eq_false_iff_not, Bool.false_eq_true, false_iff, true_iff, iff_false, iff_true, true_and, and_true, false_and, and_false, true_or, or_true, false_or, or_false, ne_eq]; first | done | omega | (intros; omega)) | (rw [Bool.eq_iff_iff]; simp [*]; done) | (rw [Bool.eq_iff_iff]; simp [*]; omega))
 by_cases e5 : κ = 5
 · subst e5
   go_enter Tryz.func125, Tryz.ntmps125
   go_wp2_with fail
   all_goals go_ret
   all_goals refine ⟨ret_bool ?_, (Below.refl _ _).alloc (Nat.le_refl _) _⟩
   all_goals show _ = decide (parts.length = 0)
   all_goals (first | rfl | (rw [Bool.eq_iff_iff]; simp only [Bool.and_eq_true, Bool.or_eq_true, decide_eq_true_eq, beq_iff_eq, bne_iff_ne, Bool.not_eq_true', beq_eq_false_iff_ne, decide_eq_false_iff_not, Bool.false_eq_true, false_iff, true_iff, iff_false, iff_true, true_and, and_true, false_and, and_false, true_or, or_true, false_or, or_false, ne_eq]; first | done | omega | (intros; omega)) | (rw [Bool.eq_iff_iff]; simp [*]; done) | (rw [Bool.eq_iff_iff]; simp [*]; omega))
 have HO : Hid (plainK ⟨κ, el, ma, parts⟩ = true) := Lib.hid (by unfold plainK; rw [if_neg e1, if_neg e2, if_neg e4, if_neg e3, if_neg e5])
 go_enter Tryz.func125, Tryz.ntmps125
 go_wp2_with fail
 all_goals go_ret
 all_goals exact ⟨ret_bool HO.out.symm, (Below.refl _ _).alloc (Nat.le_refl _) _⟩
theorem pscalar_any {w : World} (r : TyR) :
    Calls Tryz.prog 129 #[r.val] w fun e w' => e = .returned (.bool (scalK r.kind)) ∧ Below w.heap.size w w' := by
 obtain ⟨κ, el, ma, pa, pc, parts⟩ := r
 unfold TyR.val
 go_enter Tryz.func129, Tryz.ntmps129
 go_wp2_with fail
 all_goals go_ret
 all_goals refine ⟨ret_bool ?_, (Below.refl _ _).alloc (Nat.le_refl _) _⟩
 all_goals show _ = (κ == 1 || κ == 2 || κ == 3)
 all_goals (first | rfl | (rw [Bool.eq_iff_iff]; simp only [Bool.and_eq_true, Bool.or_eq_true, decide_eq_true_eq, beq_iff_eq, bne_iff_ne, Bool.not_eq_true', beq_eq_false_iff_ne, decide_eq_false_iff_not, Bool.false_eq_true, false_iff, true_iff, iff_false, iff_true, true_and, and_true, false_and, and_false, true_or, or_true, false_or, or_false, ne_eq]; first | done | omega | (intros; omega)) | (rw [Bool.eq_iff_iff]; simp [*]; done) | (rw [Bool.eq_iff_iff]; simp [*]; omega))
def Enters (F : FuncId) : Prop := ∀ args w, (callFunc F args).run Tryz.prog w = .ok (.enter F args) w
theorem enters_there : Enters 156 := fun _ _ => by kernel_rfl
theorem enters_may : Enters 128 := fun _ _ => by kernel_rfl
structure AnswersBy (w : World) (F : FuncId) (cap : Array Value) (xs : List Int) (P : Int → Bool) : Prop where
 enters : Enters F
 calls : ∀ W x, Below w.heap.size w W → x ∈ xs → Calls Tryz.prog F (#[.int .i64 x] ++ cap) W fun e w' => e = .returned (.bool (P x)) ∧ Below W.heap.size W w'
def SomeIndex (b : Bool) (w : World) (e : Ending) (w' : World) : Prop := ∃ r : Int, e = .returned (.int .i64 r) ∧ decide (0 ≤ r) = b ∧ Below w.heap.size w w'
theorem any_of_none {P : Int → Bool} {xs : List Int} {k : Nat} (h : AllTo (fun x => !P x) xs k) (hk : xs.length ≤ k) : xs.any P = false := by
 have := h.done hk
 rw [List.any_eq_not_all_not, this]; rfl
theorem any_of_some {P : Int → Bool} {xs : List Int} {k : Nat} (hk : k < xs.length) (hp : P (xs.getD k 0) = true) : xs.any P = true := by
 rw [List.any_eq_true]
 exact ⟨_, mem_getD (d := 0) hk, hp⟩
theorem indexFunc_any {w : World} {lo : Nat} {A : Option Addr} {c : Nat} {xs : List Int} (hh : Hdr A xs.length c) (hx : IntsAt w lo w.heap.size A xs) (F : FuncId) (cap : Array Value) (P : Int → Bool) (hf : AnswersBy w F cap xs P) :
    Calls Tryz.prog 157 #[.slice A xs.length c, .func (.func F) #[] cap] w (SomeIndex (xs.any P) w) := by
 have hl := Nat.le_trans hh.fit hh.cap
 unfold maxLen at hl
 have HX := Lib.hid hx
 have HF := Lib.hid hf
 have eg := hf.enters
 unfold Enters at eg
 clear hx hh hf
 go_enter Tryz.func157, Tryz.ntmps157
 go_wp2_with fail
 go_loopw [8] (fun i wr => ∃ k : Nat, k ≤ xs.length ∧ i = .int .i64 k ∧ AllTo (fun x => !P x) xs k ∧ Below w.heap.size w wr) (fun i _ => xs.length - (intOf i).toNat)
 case atStart => exact ⟨0, Nat.zero_le _, rfl, AllTo.zero _ _, Below.refl _ _⟩
 case round =>
  obtain ⟨k, hk, rfl, hall, hbel⟩ := hrel
  have HA := Lib.hid hall
  have HB := Lib.hid hbel
  clear hall hbel
  by_cases hlt : k < xs.length
  · obtain ⟨b, off, x, rfl, hcell, HE⟩ := (HX.out.keep HB.out).cell hlt
    have hxm : x ∈ xs := by have := mem_getD (d := (0 : Int)) hlt; rwa [HE.out] at this
    have HC := Lib.hid (HF.out.calls wr x HB.out hxm)
    clear hxm
    cases hp : P x with
    | true =>
      rw [hp] at HC
      have HP := Lib.hid hp
      clear hp
      go_wp2_with fail
      refine HC.out.mono ?_
      rintro e w1 ⟨rfl, hb1⟩
      have HB1 := Lib.hid (HB.out.trans (hb1.mono HB.out.size))
      clear hb1
      go_wp2_with fail
      go_ret
      exact ⟨_, rfl, by rw [any_of_some hlt (by rw [HE.out]; exact HP.out)]; simp, HB1.out⟩
    | false =>
      rw [hp] at HC
      have HP := Lib.hid hp
      clear hp
      go_wp2_with fail
      refine HC.out.mono ?_
      rintro e w1 ⟨rfl, hb1⟩
      have HB1 := Lib.hid (HB.out.trans (hb1.mono HB.out.size))
      clear hb1
      go_wp2_with fail
      go_roundw
      case rel => exact ⟨k + 1, by omega, by go_num, HA.out.step (d := 0) hlt (by rw [HE.out, HP.out]; rfl), HB1.out⟩
      case measure => simp [intOf]; omega
  · go_wp2_with fail
    go_ret
    exact ⟨_, rfl, by rw [any_of_none HA.out (by omega)]; rfl, HB.out⟩
theorem containsFunc_any {w : World} {lo : Nat} {A : Option Addr} {c : Nat} {xs : List Int} (hh : Hdr A xs.length c) (hx : IntsAt w lo w.heap.size A xs) (F : FuncId) (cap : Array Value) (P : Int → Bool) (hf : AnswersBy w F cap xs P) :
    Calls Tryz.prog 127 #[.slice A xs.length c, .func (.func F) #[] cap] w fun e w' => e = .returned (.bool (xs.any P)) ∧ Below w.heap.size w w' := by
 have HI := Lib.hid (indexFunc_any hh hx F cap P hf)
 clear hh hx hf
 go_enter Tryz.func127, Tryz.ntmps127
 go_wp2_with fail
 refine HI.out.mono ?_
 rintro e w1 ⟨r, rfl, hr, hb1⟩
 have HR := Lib.hid hr
 have HB := Lib.hid hb1
 clear hr hb1
 go_wp2_with fail
 go_ret
 exact ⟨ret_bool HR.out, HB.out⟩
theorem there1_any {w : World} {g : Nat} (x m : Int) (hc : w.cell? ⟨g, 0, none⟩ = some (.int .i64 m)) :
    Calls Tryz.prog 156 #[.int .i64 x, .pointer (some ⟨g, 0, none⟩)] w fun e w' => e = .returned (.bool (!lowP m x)) ∧ Below w.heap.size w w' := by
 go_enter Tryz.func156, Tryz.ntmps156
 go_wp2_with fail
 all_goals go_ret
 all_goals refine ⟨ret_bool ?_, Below.refl _ _⟩
 all_goals unfold lowP
 all_goals (first | rfl | (rw [Bool.eq_iff_iff]; simp only [Bool.and_eq_true, Bool.or_eq_true, decide_eq_true_eq, beq_iff_eq, bne_iff_ne, Bool.not_eq_true', beq_eq_false_iff_ne, decide_eq_false_iff_not, Bool.false_eq_true, false_iff, true_iff, iff_false, iff_true, true_and, and_true, false_and, and_false, true_or, or_true, false_or, or_false, ne_eq]; first | done | omega | (intros; omega)) | (rw [Bool.eq_iff_iff]; simp [*]; done) | (rw [Bool.eq_iff_iff]; simp [*]; omega))
theorem there_any {w : World} {lo : Nat} {A : Option Addr} {c : Nat} {xs : List Int} (hh : Hdr A xs.length c) (hx : IntsAt w lo w.heap.size A xs) (m : Int) :
    Calls Tryz.prog 126 #[.int .i64 m, .slice A xs.length c] w fun e w' => e = .returned (.bool (lowerB xs m)) ∧ Below w.heap.size w w' := by
 have hb0 : Below w.heap.size w (w.alloc (.cells #[.int .i64 m] 3)) := (Below.refl _ _).alloc (Nat.le_refl _) _
 have hA : AnswersBy (w.alloc (.cells #[.int .i64 m] 3)) 156 #[.pointer (some ⟨w.heap.size, 0, none⟩)] xs (fun x => !lowP m x) := by
  refine ⟨enters_there, ?_⟩
  intro W x hb _
  exact there1_any x m (((Blk.new w 3 #[.int .i64 m]).beneath hb).cells 0)
 have HC := Lib.hid (containsFunc_any hh ((hx.keep hb0).more (Nat.le_refl _) hb0.size) _ _ _ hA)
 have HB := Lib.hid hb0
 clear hh hx hb0 hA
 have HL : Hid (xs.any (fun x => !lowP m x) = !lowerB xs m) := Lib.hid (by unfold lowerB; rw [List.any_eq_not_all_not]; simp [lowP])
 go_enter Tryz.func126, Tryz.ntmps126
 go_wp2_with fail
 refine HC.out.mono ?_
 rintro e w1 ⟨rfl, hb1⟩
 have HB1 := Lib.hid (HB.out.trans (hb1.mono HB.out.size))
 clear hb1
 go_wp2_with fail
 go_ret
 exact ⟨ret_bool (by rw [HL.out, Bool.not_not]), HB1.out⟩
theorem sum_take (xs : List Int) {k : Nat} (h : k < xs.length) : (xs.take (k + 1)).sum = (xs.take k).sum + xs.getD k 0 := by
 rw [take_succ_getD (d := 0) h, List.sum_append]; simp
theorem sum_bd : ∀ (xs : List Int) (k : Nat), (∀ x ∈ xs, 0 ≤ x ∧ x ≤ 512) → 0 ≤ (xs.take k).sum ∧ (xs.take k).sum ≤ k * 512
 | [], k, _ => by simp; omega
 | x :: xs, 0, _ => by simp
 | x :: xs, k + 1, h => by
   have := sum_bd xs k (fun y hy => h y (by simp [hy]))
   have := h x (by simp)
   rw [List.take_succ_cons, List.sum_cons]
   omega
theorem sum_any {w : World} {lo B : Nat} {A : Option Addr} {c : Nat} {xs : List Int} (hh : Hdr A xs.length c) (hx : IntsAt w lo B A xs) (hbd : ∀ x ∈ xs, 0 ≤ x ∧ x ≤ 512) (hlen : xs.length ≤ 1000) :
    Calls Tryz.prog 130 #[.slice A xs.length c] w fun e w' => e = .returned (.int .i64 xs.sum) ∧ w = w' := by
 have HX := Lib.hid hx
 have HBD := Lib.hid hbd
 clear hx hh hbd
 go_enter Tryz.func130, Tryz.ntmps130
 go_wp2_with fail
 go_loop [2, 7] (fun s i => ∃ k : Nat, k ≤ xs.length ∧ i = .int .i64 k ∧ s = .int .i64 (xs.take k).sum) (fun _ i => xs.length - (intOf i).toNat)
 case atStart => exact ⟨0, Nat.zero_le _, rfl, rfl⟩
 case round =>
  obtain ⟨k, hk, rfl, rfl⟩ := hrel
  obtain ⟨s0, s1⟩ := sum_bd xs k HBD.out
  by_cases hlt : k < xs.length
  · obtain ⟨b, off, x, rfl, hcell, HE⟩ := HX.out.cell hlt
    have HS := Lib.hid (sum_take xs hlt)
    have hxb := HBD.out x (by have := mem_getD (d := (0 : Int)) hlt; rwa [HE.out] at this)
    generalize (xs.take k).sum = s at s0 s1 HS
    go_wp2_with fail
    go_round
    case rel => exact ⟨k + 1, by omega, by go_num, by rw [HS.out, HE.out]⟩
    case measure => simp [intOf]; omega
  · have HS : Hid ((xs.take k).sum = xs.sum) := Lib.hid (by rw [List.take_of_length_le (by omega)])
    generalize (xs.take k).sum = s at s0 s1 HS
    go_wp2_with fail
    go_ret
    exact ⟨ret_num HS.out, rfl⟩
theorem may1_any {w : World} {g : Nat} {A : Option Addr} {c : Nat} {rows : List TyR} (h : TabIn w A c rows) {i : Nat} (hi : i < rows.length) (hc : w.cell? ⟨g, 0, none⟩ = some (.slice A rows.length c)) :
    Calls Tryz.prog 128 #[.int .i64 i, .pointer (some ⟨g, 0, none⟩)] w fun e w' => e = .returned (.bool (!plainB (tbl rows) i)) ∧ Below w.heap.size w w' := by
 have hl := h.len
 obtain ⟨b, off, rfl, hbl, c0, c1, c2, c3⟩ := (h.rows.elem hi).at_
 have HP := Lib.hid (plain_in hi)
 generalize rows.getD i default = r at c0 c1 c2 c3 HP
 go_enter Tryz.func128, Tryz.ntmps128
 go_wp2_with fail
 refine (pscalar_any r).mono ?_
 rintro e w1 ⟨rfl, hb1⟩
 go_wp2_with fail
 go_ret
 exact ⟨ret_bool (by rw [HP.out]), hb1⟩
def MayAns (t : List Ty) (k : Nat) (w : World) (e : Ending) (w' : World) : Prop :=
 ∃ n : Int, e = .returned (.tuple #[.int .i64 n, .bool (goodT t k)]) ∧ (goodT t k = true → n = (ofT t k).length) ∧ Below w.heap.size w w'
theorem mayAns_of {t : List Ty} {k : Nat} {w w' : World} {e : Ending} {n : Int} {b : Bool} (he : e = .returned (.tuple #[.int .i64 n, .bool b])) (hb : b = goodT t k) (hn : b = true → n = (ofT t k).length) (hw : Below w.heap.size w w') : MayAns t k w e w' :=
 ⟨n, by rw [he, hb], by rw [← hb]; exact hn, hw⟩
def sizesT (t : List Ty) (k : Nat) : List Int := (List.range k).map fun j => ((ofT t j).length : Int)
theorem sizes_len (t : List Ty) (k : Nat) : (sizesT t k).length = k := by simp [sizesT]
theorem sizes_at {t : List Ty} {k j : Nat} (h : j < k) : (sizesT t k).getD j 0 = (ofT t j).length := by
 unfold sizesT
 simp [List.getD, h]
structure MayIn (w : World) (A : Option Addr) (c : Nat) (rows : List TyR) (k : Nat) (S : Option Addr) (cs : Nat) : Prop where
 tab : TabIn w A c rows
 lt : k < rows.length
 good : allGood (tbl rows) k = true
 hdr : Hdr S k cs
 sizes : IntsAt w 0 w.heap.size S (sizesT (tbl rows) k)
 few : ∀ r ∈ rows, r.parts.length ≤ 1000
theorem good_scalar {t : List Ty} {k : Nat} (h4 : (t.getD k default).kind ≠ 4) (h5 : (t.getD k default).kind ≠ 5) : goodT t k = mayT t k ∧ ((1 : Int) = (ofT t k).length) := by
 unfold goodT
 rw [of_scalar h4 h5]
 exact ⟨by simp, rfl⟩
theorem lowerB_one (x m : Int) : lowerB [x] m = (decide (0 ≤ x) && decide (x < m)) := by simp [lowerB]
set_option maxHeartbeats 800000 in
theorem may12_any {w : World} {A : Option Addr} {c : Nat} {rows : List TyR} {k : Nat} {S : Option Addr} {cs : Nat} (h : MayIn w A c rows k S cs) (hκ : (rows.getD k default).kind = 1 ∨ (rows.getD k default).kind = 2) :
    Calls Tryz.prog 87 #[.slice A rows.length c, .int .i64 k, .slice S k cs] w (MayAns (tbl rows) k w) := by
 have hl := h.tab.len
 have hk := h.lt
 obtain ⟨b, off, rfl, hbl, c0, c1, c2, c3⟩ := (h.tab.rows.elem hk).at_
 have HM : Hid (mayT (tbl rows) k = mayX (tbl rows) (rows.getD k default).data k) := Lib.hid (by unfold mayT; rw [tbl_at hk])
 have HG := Lib.hid (good_scalar (t := tbl rows) (k := k) (by rw [tbl_at hk]; show (rows.getD k default).kind ≠ 4; omega) (by rw [tbl_at hk]; show (rows.getD k default).kind ≠ 5; omega))
 have hrk := h.tab.row hk
 have HI := Lib.hid h
 clear h
 generalize rows.getD k default = r at c0 c1 c2 c3 HM hrk hκ
 obtain ⟨κ, el, ma, pa, pc, parts⟩ := r
 simp only at c0 c1 c2 c3 hκ
 have hlp := Nat.le_trans hrk.hdr.fit hrk.hdr.cap
 unfold maxLen at hlp
 simp only at hlp
 have HK := Lib.hid hrk
 clear hrk
 rcases hκ with e1 | e2
 · subst e1
   go_enter Tryz.func87, Tryz.ntmps87
   go_wp2_with fail
   refine (pplain_any ⟨1, el, ma, pa, pc, parts⟩ (by simpa using hlp)).mono ?_
   rintro e w1 ⟨rfl, hb1⟩
   have kx : Blk w1 (w.heap.size + 1) 78 #[.int .u8 1, .int .i64 el, .int .i64 ma, .slice pa parts.length pc] := (Blk.new2 w _ _ _).beneath hb1
   have k0 := kx.cells 0
   have HB := Lib.hid (below_new2 hb1)
   have hz := hb1.size
   simp only [World.size_alloc] at hz
   clear kx hb1
   obtain ⟨pb, hpb⟩ : ∃ pb, plainK (TyR.data ⟨1, el, ma, pa, pc, parts⟩) = pb := ⟨_, rfl⟩
   rw [hpb]
   have HP := Lib.hid hpb
   clear hpb
   go_wp2_with fail
   all_goals go_ret2
   all_goals refine mayAns_of rfl ?_ (fun _ => HG.out.2) HB.out
   all_goals rw [HG.out.1, HM.out]
   all_goals show _ = (decide (el = 0) && (decide (ma = 0) && decide (parts.length = 0)))
   all_goals rw [← Bool.and_assoc, show (decide (el = 0) && decide (ma = 0) && decide (parts.length = 0)) = pb from HP.out]
   all_goals first | rfl | (simp [*]; done)
 · subst e2
   go_enter Tryz.func87, Tryz.ntmps87
   go_wp2_with fail
   refine (pplain_any ⟨2, el, ma, pa, pc, parts⟩ (by simpa using hlp)).mono ?_
   rintro e w1 ⟨rfl, hb1⟩
   have kx : Blk w1 (w.heap.size + 1) 78 #[.int .u8 2, .int .i64 el, .int .i64 ma, .slice pa parts.length pc] := (Blk.new2 w _ _ _).beneath hb1
   have kb : Blk w1 w.heap.size 22 #[.slice (some ⟨b, off, none⟩) rows.length c] := ((Blk.new w _ _).alloc _).beneath hb1
   have k0 := kx.cells 0
   have k1 := kx.cells 1
   have kt := kb.cells 0
   have HB := Lib.hid (below_new2 hb1)
   have hz := hb1.size
   simp only [World.size_alloc] at hz
   clear kx kb hb1
   obtain ⟨pb, hpb⟩ : ∃ pb, plainK (TyR.data ⟨2, el, ma, pa, pc, parts⟩) = pb := ⟨_, rfl⟩
   rw [hpb]
   have HP := Lib.hid hpb
   clear hpb
   cases pb with
   | false =>
     go_wp2_with fail
     all_goals go_ret2
     all_goals refine mayAns_of rfl ?_ (fun h => by cases h) HB.out
     all_goals rw [HG.out.1, HM.out]
     all_goals show _ = (decide (0 ≤ el) && (decide (el < (tbl rows).length) && (decide (ma = 0) && decide (parts.length = 0))))
     all_goals rw [show (decide (ma = 0) && decide (parts.length = 0)) = false from HP.out]
     all_goals simp
   | true =>
     have HO : Hid (∀ w2 : World, IntsAt (w2.alloc (.cells #[.int .i64 el] 3)) 0 (w2.alloc (.cells #[.int .i64 el] 3)).heap.size (some ⟨w2.heap.size, 0, none⟩) [el] ∧ Hdr (some ⟨w2.heap.size, 0, none⟩) 1 1) := Lib.hid fun w2 => (own_hdr (OwnInts.one w2 0 w2.heap.size el (Nat.zero_le _) rfl)).symm
     go_wp2_with fail
     refine (there_any (xs := [el]) (HO.out _).2 (HO.out _).1 rows.length).mono ?_
     rintro e w2 ⟨rfl, hb2⟩
     have HB2 := Lib.hid (HB.out.trans ((below_new hb2).mono HB.out.size))
     clear hb2
     go_wp2_with fail
     all_goals go_ret2
     all_goals refine mayAns_of rfl ?_ (fun _ => HG.out.2) HB2.out
     all_goals rw [HG.out.1, HM.out]
     all_goals show _ = (decide (0 ≤ el) && (decide (el < (tbl rows).length) && (decide (ma = 0) && decide (parts.length = 0))))
     all_goals rw [show (decide (ma = 0) && decide (parts.length = 0)) = true from HP.out, tbl_len, ← Bool.and_assoc, Bool.and_true, ← lowerB_one]
     all_goals first | rfl | (simp [*]; done)
theorem mayFn_all {t : List Ty} {el ma : Int} {ps : List Int} : mayFnB t ⟨3, el, ma, ps⟩ = (decide (ma = 0) && (decide (ps.length ≤ 4) && ([el] ++ ps).all (plainB t))) := by
 unfold mayFnB
 rw [List.all_append]
 simp only [List.all_cons, List.all_nil, Bool.and_true]
 generalize ps.all (plainB t) = a
 generalize plainB t el = b
 generalize decide (ps.length ≤ 4) = c
 generalize decide (ma = 0) = d
 cases a <;> cases b <;> cases c <;> cases d <;> rfl
theorem plain_lower {t : List Ty} {l : List Int} (h : lowerB l t.length = false) : l.all (plainB t) = false := by
 cases hc : l.all (plainB t) with
 | false => rfl
 | true =>
   exfalso
   have : lowerB l t.length = true := lowerB_iff.2 fun n hn => by
    have := List.all_eq_true.1 hc n hn
    unfold plainB at this
    simp only [Bool.and_eq_true, decide_eq_true_eq] at this
    exact this.1
   rw [this] at h
   cases h
set_option maxHeartbeats 1600000 in
theorem may3_any {w : World} {A : Option Addr} {c : Nat} {rows : List TyR} {k : Nat} {S : Option Addr} {cs : Nat} (h : MayIn w A c rows k S cs) (hκ : (rows.getD k default).kind = 3) :
    Calls Tryz.prog 87 #[.slice A rows.length c, .int .i64 k, .slice S k cs] w (MayAns (tbl rows) k w) := by
 have hl := h.tab.len
 have hk := h.lt
 obtain ⟨b, off, rfl, hbl, c0, c1, c2, c3⟩ := (h.tab.rows.elem hk).at_
 have HM : Hid (mayT (tbl rows) k = mayX (tbl rows) (rows.getD k default).data k) := Lib.hid (by unfold mayT; rw [tbl_at hk])
 have HG := Lib.hid (good_scalar (t := tbl rows) (k := k) (by rw [tbl_at hk]; show (rows.getD k default).kind ≠ 4; omega) (by rw [tbl_at hk]; show (rows.getD k default).kind ≠ 5; omega))
 have hrk := h.tab.row hk
 have hfew := h.few _ (mem_getD (d := default) hk)
 have HI := Lib.hid h
 clear h
 generalize rows.getD k default = r at c0 c1 c2 c3 HM hrk hκ hfew
 obtain ⟨κ, el, ma, pa, pc, parts⟩ := r
 simp only at c0 c1 c2 c3 hκ hfew
 subst hκ
 have hlp := Nat.le_trans hrk.hdr.fit hrk.hdr.cap
 unfold maxLen at hlp
 simp only at hlp
 have HK := Lib.hid hrk
 clear hrk
 have HF := Lib.hid (mayFn_all (t := tbl rows) (el := el) (ma := ma) (ps := parts))
 have HX : Hid (mayT (tbl rows) k = mayFnB (tbl rows) ⟨3, el, ma, parts⟩) := HM
 clear HM
 by_cases h4 : (parts.length : Int) ≤ 4
 · have HH : Hid (∀ w2 : World, OwnInts (w2.alloc (.cells #[.int .i64 el] 3)) w.heap.size (.slice (some ⟨w2.heap.size, 0, none⟩) 1 1) [el] ∨ ¬ w.heap.size ≤ w2.heap.size) := Lib.hid fun w2 => by
    by_cases hle : w.heap.size ≤ w2.heap.size
    · exact .inl (OwnInts.one w2 _ w2.heap.size el hle rfl)
    · exact .inr hle
   have H4 : Hid (decide (parts.length ≤ 4) = true) := Lib.hid (by simp; omega)
   go_enter Tryz.func87, Tryz.ntmps87
   go_wp2_with fail
   refine (pplain_any ⟨3, el, ma, pa, pc, parts⟩ (by simpa using hlp)).mono ?_
   rintro e w1 ⟨rfl, hb1⟩
   have hkx : Blk w1 (w.heap.size + 1) 78 #[.int .u8 3, .int .i64 el, .int .i64 ma, .slice pa parts.length pc] := (Blk.new2 w _ _ _).beneath hb1
   have hkb : Blk w1 w.heap.size 22 #[.slice (some ⟨b, off, none⟩) rows.length c] := ((Blk.new w _ _).alloc _).beneath hb1
   have k0 := hkx.cells 0
   have k1 := hkx.cells 1
   have k3 := hkx.cells 3
   have KX := Lib.hid hkx
   have KB := Lib.hid hkb
   have HB := Lib.hid (below_new2 hb1)
   have hz := hb1.size
   simp only [World.size_alloc] at hz
   have k3a := (hkx.alloc (.cells #[.int .i64 el] 3)).cells 3
   clear hkx hkb hb1
   have HO1 : Hid (OwnInts (w1.alloc (.cells #[.int .i64 el] 3)) w.heap.size (.slice (some ⟨w1.heap.size, 0, none⟩) 1 1) [el]) := Lib.hid ((HH.out w1).resolve_right (fun h => h HB.out.size))
   have HB1 : Hid (Below w.heap.size w (w1.alloc (.cells #[.int .i64 el] 3))) := Lib.hid (HB.out.alloc HB.out.size _)
   clear HH
   have HPK : Hid (plainK (TyR.data ⟨3, el, ma, pa, pc, parts⟩) = decide (ma = 0)) := Lib.hid rfl
   rw [HPK.out]
   obtain ⟨pb, hpb⟩ : ∃ pb, decide (ma = 0) = pb := ⟨_, rfl⟩
   rw [hpb]
   have HP := Lib.hid hpb
   clear hpb HPK
   go_wp2_with (at_builtin; refine wpList_appN rfl (.tmp 40) (.tmp 42) rfl w.heap.size 0 w.heap.size _ [el] rfl HO1.out pa parts.length pc parts rfl rfl HK.out.hdr.nil (HK.out.ints.keep HB1.out) (by simp; omega) HB1.out.size ?_; intro v2 w2 hown2 hg2; refine pause ?_)
   have hb2 := HB1.out.grown hg2 HB1.out.size HO1.out.base
   have hkx2 := (Blk.alloc KX.out _).grown hg2 (HO1.out.ne (Blk.alloc KX.out _) (by decide))
   have hkb2 := (Blk.alloc KB.out _).grown hg2 (HO1.out.ne (Blk.alloc KB.out _) (by decide))
   obtain ⟨A2, c2', rfl, hnil2, hints2, hle2, hcap2⟩ := hown2.form
   have k0' := hkx2.cells 0
   have k1' := hkx2.cells 1
   have k3' := hkx2.cells 3
   have kb' := hkb2.cells 0
   have KB2 := Lib.hid hkb2
   have HB2 := Lib.hid hb2
   have HN2 : Hid (Hdr A2 ([el] ++ parts).length c2') := Lib.hid ⟨hle2, hcap2, hnil2⟩
   have HI2 := Lib.hid hints2
   clear k0 k1 k3 k3a KX KB hown2 hg2 hb2 hkx2 hkb2 hnil2 hints2 hle2 hcap2
   refine resume ?_
   cases pb with
   | false =>
     go_wp2_with fail
     all_goals go_ret2
     all_goals refine mayAns_of rfl ?_ (fun h => by cases h) HB2.out
     all_goals rw [HG.out.1, HX.out, HF.out, HP.out]
     all_goals rfl
   | true =>
     cases hth : lowerB ([el] ++ parts) rows.length with
     | false =>
       have HTH : Hid (lowerB ([el] ++ parts) rows.length = false) := Lib.hid hth
       have HPL : Hid (([el] ++ parts).all (plainB (tbl rows)) = false) := Lib.hid (plain_lower (by rw [tbl_len]; exact hth))
       clear hth
       go_wp2_with fail
       refine (there_any HN2.out HI2.out rows.length).mono ?_
       rw [HTH.out]
       rintro e w3 ⟨rfl, hb3⟩
       have HB3 := Lib.hid (HB2.out.trans (hb3.mono HB2.out.size))
       clear hb3
       go_wp2_with fail
       all_goals go_ret2
       all_goals refine mayAns_of rfl ?_ (fun h => by cases h) HB3.out
       all_goals rw [HG.out.1, HX.out, HF.out, HP.out, HPL.out, H4.out]
       all_goals rfl
     | true =>
       have HTH : Hid (lowerB ([el] ++ parts) rows.length = true) := Lib.hid hth
       clear hth
       obtain ⟨q, hq⟩ : ∃ q, ([el] ++ parts).all (plainB (tbl rows)) = q := ⟨_, rfl⟩
       have HAN : Hid (([el] ++ parts).any (fun x => !plainB (tbl rows) x) = !q) := Lib.hid (by rw [← hq, List.any_eq_not_all_not]; simp)
       have HQ := Lib.hid hq
       clear hq
       go_wp2_with fail
       refine (there_any HN2.out HI2.out rows.length).mono ?_
       rw [HTH.out]
       rintro e w3 ⟨rfl, hb3⟩
       have HB3 := Lib.hid (HB2.out.trans (hb3.mono HB2.out.size))
       have HI3 := Lib.hid ((HI2.out.keep hb3).more (Nat.le_refl _) hb3.size)
       have HAB : Hid (AnswersBy w3 128 #[.pointer (some ⟨w.heap.size, 0, none⟩)] ([el] ++ parts) (fun x => !plainB (tbl rows) x)) := Lib.hid ⟨enters_may, fun W x hbW hx => by
        obtain ⟨x0, x1⟩ := lowerB_iff.1 HTH.out x hx
        obtain ⟨i, rfl⟩ := Int.eq_ofNat_of_zero_le x0
        exact may1_any (HI.out.tab.on ((HB3.out).trans (hbW.mono HB3.out.size))) (by omega) (((KB2.out.beneath hb3).beneath hbW).cells 0)⟩
       clear hb3
       go_wp2_with fail
       refine (containsFunc_any HN2.out HI3.out _ _ _ HAB.out).mono ?_
       rw [HAN.out]
       rintro e w4 ⟨rfl, hb4⟩
       have HB4 := Lib.hid (HB3.out.trans (hb4.mono HB3.out.size))
       clear hb4
       go_wp2_with fail
       all_goals go_ret2
       all_goals refine mayAns_of rfl ?_ (fun _ => HG.out.2) HB4.out
       all_goals rw [HG.out.1, HX.out, HF.out, HP.out, H4.out, HQ.out]
       all_goals first | rfl | (simp [*]; done)
 · have HH : Hid (∀ w2 : World, OwnInts (w2.alloc (.cells #[.int .i64 el] 3)) w.heap.size (.slice (some ⟨w2.heap.size, 0, none⟩) 1 1) [el] ∨ ¬ w.heap.size ≤ w2.heap.size) := Lib.hid fun w2 => by
    by_cases hle : w.heap.size ≤ w2.heap.size
    · exact .inl (OwnInts.one w2 _ w2.heap.size el hle rfl)
    · exact .inr hle
   have H4 : Hid (decide (parts.length ≤ 4) = false) := Lib.hid (by simp; omega)
   go_enter Tryz.func87, Tryz.ntmps87
   go_wp2_with fail
   refine (pplain_any ⟨3, el, ma, pa, pc, parts⟩ (by simpa using hlp)).mono ?_
   rintro e w1 ⟨rfl, hb1⟩
   have hkx : Blk w1 (w.heap.size + 1) 78 #[.int .u8 3, .int .i64 el, .int .i64 ma, .slice pa parts.length pc] := (Blk.new2 w _ _ _).beneath hb1
   have hkb : Blk w1 w.heap.size 22 #[.slice (some ⟨b, off, none⟩) rows.length c] := ((Blk.new w _ _).alloc _).beneath hb1
   have k0 := hkx.cells 0
   have k1 := hkx.cells 1
   have k3 := hkx.cells 3
   have KX := Lib.hid hkx
   have KB := Lib.hid hkb
   have HB := Lib.hid (below_new2 hb1)
   have hz := hb1.size
   simp only [World.size_alloc] at hz
   have k3a := (hkx.alloc (.cells #[.int .i64 el] 3)).cells 3
   clear hkx hkb hb1
   have HO1 : Hid (OwnInts (w1.alloc (.cells #[.int .i64 el] 3)) w.heap.size (.slice (some ⟨w1.heap.size, 0, none⟩) 1 1) [el]) := Lib.hid ((HH.out w1).resolve_right (fun h => h HB.out.size))
   have HB1 : Hid (Below w.heap.size w (w1.alloc (.cells #[.int .i64 el] 3))) := Lib.hid (HB.out.alloc HB.out.size _)
   clear HH
   have HPK : Hid (plainK (TyR.data ⟨3, el, ma, pa, pc, parts⟩) = decide (ma = 0)) := Lib.hid rfl
   rw [HPK.out]
   obtain ⟨pb, hpb⟩ : ∃ pb, decide (ma = 0) = pb := ⟨_, rfl⟩
   rw [hpb]
   have HP := Lib.hid hpb
   clear hpb HPK
   go_wp2_with (at_builtin; refine wpList_appN rfl (.tmp 40) (.tmp 42) rfl w.heap.size 0 w.heap.size _ [el] rfl HO1.out pa parts.length pc parts rfl rfl HK.out.hdr.nil (HK.out.ints.keep HB1.out) (by simp; omega) HB1.out.size ?_; intro v2 w2 hown2 hg2; refine pause ?_)
   have hb2 := HB1.out.grown hg2 HB1.out.size HO1.out.base
   have hkx2 := (Blk.alloc KX.out _).grown hg2 (HO1.out.ne (Blk.alloc KX.out _) (by decide))
   have hkb2 := (Blk.alloc KB.out _).grown hg2 (HO1.out.ne (Blk.alloc KB.out _) (by decide))
   obtain ⟨A2, c2', rfl, hnil2, hints2, hle2, hcap2⟩ := hown2.form
   have k0' := hkx2.cells 0
   have k1' := hkx2.cells 1
   have k3' := hkx2.cells 3
   have kb' := hkb2.cells 0
   have KB2 := Lib.hid hkb2
   have HB2 := Lib.hid hb2
   have HN2 : Hid (Hdr A2 ([el] ++ parts).length c2') := Lib.hid ⟨hle2, hcap2, hnil2⟩
   have HI2 := Lib.hid hints2
   clear k0 k1 k3 k3a KX KB hown2 hg2 hb2 hkx2 hkb2 hnil2 hints2 hle2 hcap2
   refine resume ?_
   cases pb
   all_goals
    go_wp2_with fail
    all_goals go_ret2
    all_goals refine mayAns_of rfl ?_ (fun h => by cases h) HB2.out
    all_goals rw [HG.out.1, HX.out, HF.out, HP.out, H4.out]
    all_goals rfl
theorem may0_any {w : World} {A : Option Addr} {c : Nat} {rows : List TyR} {k : Nat} {S : Option Addr} {cs : Nat} (h : MayIn w A c rows k S cs) (hκ : (rows.getD k default).kind < 1 ∨ 5 < (rows.getD k default).kind) :
    Calls Tryz.prog 87 #[.slice A rows.length c, .int .i64 k, .slice S k cs] w (MayAns (tbl rows) k w) := by
 have hl := h.tab.len
 have hk := h.lt
 obtain ⟨b, off, rfl, hbl, c0, c1, c2, c3⟩ := (h.tab.rows.elem hk).at_
 have HM : Hid (mayT (tbl rows) k = mayX (tbl rows) (rows.getD k default).data k) := Lib.hid (by unfold mayT; rw [tbl_at hk])
 have HD : Hid ((tbl rows).getD k default = (rows.getD k default).data) := Lib.hid (tbl_at hk)
 have hrk := h.tab.row hk
 have hfew := h.few _ (mem_getD (d := default) hk)
 have HI := Lib.hid h
 clear h
 generalize rows.getD k default = r at c0 c1 c2 c3 HM hrk hκ hfew HD
 obtain ⟨κ, el, ma, pa, pc, parts⟩ := r
 simp only at c0 c1 c2 c3 hκ hfew
 have hlp := Nat.le_trans hrk.hdr.fit hrk.hdr.cap
 unfold maxLen at hlp
 simp only at hlp
 clear hrk
 have HX : Hid (goodT (tbl rows) k = false) := Lib.hid (by unfold goodT; rw [HM.out, mayX_other _ _ _ (by show ¬ κ = 1; omega) (by show ¬ κ = 2; omega) (by show ¬ κ = 3; omega) (by show ¬ κ = 4; omega) (by show ¬ κ = 5; omega)]; rfl)
 go_enter Tryz.func87, Tryz.ntmps87
 go_wp2_with fail
 refine (pplain_any ⟨κ, el, ma, pa, pc, parts⟩ (by simpa using hlp)).mono ?_
 rintro e w1 ⟨rfl, hb1⟩
 have kx : Blk w1 (w.heap.size + 1) 78 #[.int .u8 κ, .int .i64 el, .int .i64 ma, .slice pa parts.length pc] := (Blk.new2 w _ _ _).beneath hb1
 have k0 := kx.cells 0
 have HB := Lib.hid (below_new2 hb1)
 have hz := hb1.size
 simp only [World.size_alloc] at hz
 clear kx hb1
 go_wp2_with fail
 all_goals go_ret2
 all_goals exact mayAns_of rfl HX.out.symm (fun h => by cases h) HB.out
theorem good_array {t : List Ty} {k : Nat} {el ma : Int} {ps : List Int} (hd : t.getD k default = ⟨5, el, ma, ps⟩) (h0 : 0 ≤ el) (h1 : el < k) (hm1 : 1 ≤ ma) (hm : ma ≤ 16) (hp : ps.length = 0) :
    ((ofT t k).length : Int) = ma * (ofT t el.toNat).length ∧ goodT t k = decide ((ofT t k).length ≤ 32) := by
 have h := of_array (t := t) (k := k) (by rw [hd]) (by rw [hd]; exact ⟨h0, h1⟩)
 rw [hd] at h
 refine ⟨?_, ?_⟩
 · rw [h, rep_len]
   show (((ma.toNat * (ofT t el.toNat).length : Nat)) : Int) = _
   rw [Int.natCast_mul, Int.toNat_of_nonneg (by omega)]
 · unfold goodT mayT
   rw [hd]
   show (decide (0 ≤ el) && (decide (el < k) && (decide (1 ≤ ma) && (decide (ma ≤ 16) && decide (ps.length = 0)))) && _) = _
   rw [decide_eq_true h0, decide_eq_true h1, decide_eq_true hm1, decide_eq_true hm, decide_eq_true hp]
   rfl
set_option maxHeartbeats 1600000 in
theorem may5_any {w : World} {A : Option Addr} {c : Nat} {rows : List TyR} {k : Nat} {S : Option Addr} {cs : Nat} (h : MayIn w A c rows k S cs) (hκ : (rows.getD k default).kind = 5) :
    Calls Tryz.prog 87 #[.slice A rows.length c, .int .i64 k, .slice S k cs] w (MayAns (tbl rows) k w) := by
 have hl := h.tab.len
 have hk := h.lt
 obtain ⟨b, off, rfl, hbl, c0, c1, c2, c3⟩ := (h.tab.rows.elem hk).at_
 have HM : Hid (mayT (tbl rows) k = mayX (tbl rows) (rows.getD k default).data k) := Lib.hid (by unfold mayT; rw [tbl_at hk])
 have HD : Hid ((tbl rows).getD k default = (rows.getD k default).data) := Lib.hid (tbl_at hk)
 have hrk := h.tab.row hk
 have hfew := h.few _ (mem_getD (d := default) hk)
 have HI := Lib.hid h
 clear h
 generalize rows.getD k default = r at c0 c1 c2 c3 HM hrk hκ hfew HD
 obtain ⟨κ, el, ma, pa, pc, parts⟩ := r
 simp only at c0 c1 c2 c3 hκ hfew
 subst hκ
 have HK := Lib.hid hrk
 clear hrk
 have HX : Hid (mayT (tbl rows) k = (decide (0 ≤ el) && (decide (el < k) && (decide (1 ≤ ma) && (decide (ma ≤ 16) && decide (parts.length = 0)))))) := HM
 clear HM
 have HA := Lib.hid (fun h0 h1 hm1 hm hp => good_array (t := tbl rows) (k := k) (el := el) (ma := ma) (ps := parts) HD.out h0 h1 hm1 hm hp)
 have HF : Hid (mayT (tbl rows) k = false → goodT (tbl rows) k = false) := Lib.hid (fun h => by unfold goodT; rw [h]; rfl)
 go_enter Tryz.func87, Tryz.ntmps87
 go_wp2_with fail
 refine (pplain_any ⟨5, el, ma, pa, pc, parts⟩ (by simp; omega)).mono ?_
 rintro e w1 ⟨rfl, hb1⟩
 have kx : Blk w1 (w.heap.size + 1) 78 #[.int .u8 5, .int .i64 el, .int .i64 ma, .slice pa parts.length pc] := (Blk.new2 w _ _ _).beneath hb1
 have k0 := kx.cells 0
 have k1 := kx.cells 1
 have k2 := kx.cells 2
 have KX := Lib.hid kx
 have HB := Lib.hid (below_new2 hb1)
 have hz := hb1.size
 simp only [World.size_alloc] at hz
 clear kx hb1
 have HPK : Hid (plainK (TyR.data ⟨5, el, ma, pa, pc, parts⟩) = decide (parts.length = 0)) := Lib.hid rfl
 rw [HPK.out]
 clear HPK
 by_cases hp0 : parts.length = 0
 · have HP0 := Lib.hid hp0
   rw [decide_eq_true hp0]
   clear hp0
   have HO : Hid (∀ w2 : World, IntsAt (w2.alloc (.cells #[.int .i64 el] 3)) 0 (w2.alloc (.cells #[.int .i64 el] 3)).heap.size (some ⟨w2.heap.size, 0, none⟩) [el] ∧ Hdr (some ⟨w2.heap.size, 0, none⟩) 1 1) := Lib.hid fun w2 => (own_hdr (OwnInts.one w2 0 w2.heap.size el (Nat.zero_le _) rfl)).symm
   by_cases hin : 0 ≤ el ∧ el < k
   · obtain ⟨el0, elk⟩ := hin
     have HL : Hid (lowerB [el] k = true) := Lib.hid (by rw [lowerB_one, decide_eq_true el0, decide_eq_true elk]; rfl)
     go_wp2_with fail
     refine (there_any (xs := [el]) (HO.out _).2 (HO.out _).1 k).mono ?_
     rw [HL.out]
     rintro e w2 ⟨rfl, hb2⟩
     have HB2 := Lib.hid (HB.out.trans ((below_new hb2).mono HB.out.size))
     have kx2 : Blk w2 (w.heap.size + 1) 78 #[.int .u8 5, .int .i64 el, .int .i64 ma, .slice pa parts.length pc] := (KX.out.alloc _).beneath hb2
     have m0 := kx2.cells 0
     have m1 := kx2.cells 1
     have m2 := kx2.cells 2
     clear k0 k1 k2 kx2 hb2
     by_cases hm : 1 ≤ ma ∧ ma ≤ 16
     · obtain ⟨ma1, ma16⟩ := hm
       obtain ⟨i, rfl⟩ := Int.eq_ofNat_of_zero_le el0
       have hik : i < k := by omega
       have hle : (ofT (tbl rows) i).length ≤ 32 := good_le (allGood_iff.1 HI.out.good i hik)
       have HG := Lib.hid (HA.out el0 elk ma1 ma16 HP0.out)
       rw [Int.toNat_natCast] at HG
       have hsz := (HI.out.sizes.keep HB2.out).cell (k := i) (by rw [sizes_len]; exact hik)
       obtain ⟨bs, os, y, rfl, hcy, HY⟩ := hsz
       have HYV : Hid (y = (ofT (tbl rows) i).length) := Lib.hid (by rw [← HY.out, sizes_at hik])
       have hy0 : 0 ≤ y ∧ y ≤ 32 := by have := HYV.out; omega
       obtain ⟨y0, y1⟩ := hy0
       have hmul : ma * y ≤ 512 ∧ 0 ≤ ma * y := by
        refine ⟨?_, Int.mul_nonneg (by omega) y0⟩
        have := Int.mul_le_mul ma16 y1 y0 (by omega)
        omega
       obtain ⟨mu1, mu0⟩ := hmul
       have hwr : IntKind.i64.wrap (ma * y) = ma * y := IntWalk.i64_in _ (by omega)
       have HMV : Hid (ma * y = (ofT (tbl rows) k).length) := Lib.hid (by rw [HYV.out]; exact HG.out.1.symm)
       go_wp2_with fail
       go_quiet (fail)
       go_wp2_with fail
       go_ret2
       exact mayAns_of rfl (by rw [HG.out.2, HMV.out, decide_eq_decide]; omega) (fun _ => HMV.out) (belowDrewN HB2.out _)
     · have HN := Lib.hid (HF.out (by rw [HX.out]; by_cases h1 : 1 ≤ ma
                                      · rw [decide_eq_false (fun h2 => hm ⟨h1, h2⟩)]; simp
                                      · rw [decide_eq_false h1]; simp))
       by_cases hm1 : ma < 1
       · clear hm
         go_wp2_with fail
         go_ret2
         exact mayAns_of rfl HN.out.symm (fun h => by cases h) HB2.out
       · have hq : decide (ma ≤ 16) = false := decide_eq_false (by omega)
         have hq1 : 1 ≤ ma := by omega
         clear hm hm1
         go_wp2_with fail
         go_ret2
         exact mayAns_of rfl HN.out.symm (fun h => by cases h) HB2.out
   · have HL : Hid (lowerB [el] k = false) := Lib.hid (by
      rw [lowerB_one]
      by_cases h0 : 0 ≤ el
      · rw [decide_eq_false (fun h2 => hin ⟨h0, h2⟩)]; simp
      · rw [decide_eq_false h0]; rfl)
     have HN := Lib.hid (HF.out (by rw [HX.out, ← Bool.and_assoc, ← lowerB_one, HL.out]; rfl))
     clear hin
     go_wp2_with fail
     refine (there_any (xs := [el]) (HO.out _).2 (HO.out _).1 k).mono ?_
     rw [HL.out]
     rintro e w2 ⟨rfl, hb2⟩
     have HB2 := Lib.hid (HB.out.trans ((below_new hb2).mono HB.out.size))
     clear hb2
     go_wp2_with fail
     all_goals go_ret2
     all_goals exact mayAns_of rfl HN.out.symm (fun h => by cases h) HB2.out
 · rw [decide_eq_false hp0]
   have HN := Lib.hid (HF.out (by rw [HX.out, decide_eq_false hp0]; simp))
   clear hp0
   go_wp2_with fail
   all_goals go_ret2
   all_goals exact mayAns_of rfl HN.out.symm (fun h => by cases h) HB.out
def psz (t : List Ty) (ps : List Int) : List Int := ps.map fun p => ((ofP t p).length : Int)
theorem psz_sum (t : List Ty) : ∀ ps : List Int, (psz t ps).sum = ((ps.flatMap (ofP t)).length : Int)
 | [] => rfl
 | p :: ps => by
   show ((ofP t p).length : Int) + (psz t ps).sum = _
   rw [psz_sum t ps, List.flatMap_cons, List.length_append]
   omega
theorem psz_snoc {t : List Ty} {ps : List Int} {j : Nat} (h : j < ps.length) : psz t (ps.take (j + 1)) = psz t (ps.take j) ++ [((ofP t (ps.getD j 0)).length : Int)] := by
 unfold psz
 rw [take_succ_getD (d := 0) h, List.map_append]; rfl
theorem psz_len (t : List Ty) (ps : List Int) : (psz t ps).length = ps.length := by simp [psz]
set_option maxHeartbeats 1600000 in
theorem may4_any {w : World} {A : Option Addr} {c : Nat} {rows : List TyR} {k : Nat} {S : Option Addr} {cs : Nat} (h : MayIn w A c rows k S cs) (hκ : (rows.getD k default).kind = 4) :
    Calls Tryz.prog 87 #[.slice A rows.length c, .int .i64 k, .slice S k cs] w (MayAns (tbl rows) k w) := by
 have hl := h.tab.len
 have hk := h.lt
 obtain ⟨b, off, rfl, hbl, c0, c1, c2, c3⟩ := (h.tab.rows.elem hk).at_
 have HM : Hid (mayT (tbl rows) k = mayX (tbl rows) (rows.getD k default).data k) := Lib.hid (by unfold mayT; rw [tbl_at hk])
 have HD : Hid ((tbl rows).getD k default = (rows.getD k default).data) := Lib.hid (tbl_at hk)
 have hrk := h.tab.row hk
 have hfew := h.few _ (mem_getD (d := default) hk)
 have HI := Lib.hid h
 clear h
 generalize rows.getD k default = r at c0 c1 c2 c3 HM hrk hκ hfew HD
 obtain ⟨κ, el, ma, pa, pc, parts⟩ := r
 simp only at c0 c1 c2 c3 hκ hfew
 subst hκ
 have HK := Lib.hid hrk
 clear hrk
 have HX : Hid (mayT (tbl rows) k = (decide (el = 0) && (decide (ma = 0) && (decide (1 ≤ parts.length) && (decide (parts.length ≤ 8) && lowerB parts k))))) := HM
 clear HM
 have HF : Hid (mayT (tbl rows) k = false → goodT (tbl rows) k = false) := Lib.hid (fun h => by unfold goodT; rw [h]; rfl)
 go_enter Tryz.func87, Tryz.ntmps87
 go_wp2_with fail
 refine (pplain_any ⟨4, el, ma, pa, pc, parts⟩ (by simp; omega)).mono ?_
 rintro e w1 ⟨rfl, hb1⟩
 have kx : Blk w1 (w.heap.size + 1) 78 #[.int .u8 4, .int .i64 el, .int .i64 ma, .slice pa parts.length pc] := (Blk.new2 w _ _ _).beneath hb1
 have k0 := kx.cells 0
 have k3 := kx.cells 3
 have KX := Lib.hid kx
 have HB := Lib.hid (below_new2 hb1)
 have hz := hb1.size
 simp only [World.size_alloc] at hz
 clear kx hb1
 have HPK : Hid (plainK (TyR.data ⟨4, el, ma, pa, pc, parts⟩) = (decide (el = 0) && decide (ma = 0))) := Lib.hid rfl
 rw [HPK.out]
 clear HPK
 obtain ⟨pb, hpb⟩ : ∃ pb, (decide (el = 0) && decide (ma = 0)) = pb := ⟨_, rfl⟩
 rw [hpb]
 have HP := Lib.hid hpb
 clear hpb
 cases pb with
 | false =>
   have HN := Lib.hid (HF.out (by rw [HX.out, ← Bool.and_assoc, HP.out]; rfl))
   go_wp2_with fail
   all_goals go_ret2
   all_goals exact mayAns_of rfl HN.out.symm (fun h => by cases h) HB.out
 | true =>
   cases hlow : lowerB parts k with
   | false =>
     have HL := Lib.hid hlow
     clear hlow
     have HN := Lib.hid (HF.out (by rw [HX.out, HL.out]; simp))
     go_wp2_with fail
     refine (there_any (HK.out.keep HB.out).hdr ((HK.out.keep HB.out).ints.more (Nat.le_refl _) HB.out.size) k).mono ?_
     simp only
     rw [HL.out]
     rintro e w2 ⟨rfl, hb2⟩
     have HB2 := Lib.hid (HB.out.trans (hb2.mono HB.out.size))
     clear hb2
     go_wp2_with fail
     all_goals go_ret2
     all_goals exact mayAns_of rfl HN.out.symm (fun h => by cases h) HB2.out
   | true =>
     have HL := Lib.hid hlow
     clear hlow
     have HPS : Hid (ofT (tbl rows) k = parts.flatMap (ofP (tbl rows))) := Lib.hid (by
      rw [of_struct (by rw [HD.out]; rfl) (by rw [HD.out]; exact lowerB_iff.1 HL.out), HD.out]; rfl)
     have HPB : Hid (∀ p ∈ parts, 0 ≤ p ∧ p < k ∧ (ofP (tbl rows) p).length ≤ 32) := Lib.hid fun p hp => by
      obtain ⟨p0, p1⟩ := lowerB_iff.1 HL.out p hp
      exact ⟨p0, p1, part_le HI.out.good ⟨p0, p1⟩⟩
     go_wp2_with fail
     refine (there_any (HK.out.keep HB.out).hdr ((HK.out.keep HB.out).ints.more (Nat.le_refl _) HB.out.size) k).mono ?_
     simp only
     rw [HL.out]
     rintro e w2 ⟨rfl, hb2⟩
     have KX2 := Lib.hid (KX.out.beneath hb2)
     have m3 := KX2.out.cells 3
     have hz2 := KX2.out.lt
     have HB2 := Lib.hid (HB.out.trans (hb2.mono HB.out.size))
     clear hb2 k0 k3 KX
     go_wp2_with fail
     go_loopw [12, 77] (fun v i wr => ∃ j : Nat, j ≤ parts.length ∧ i = .int .i64 j ∧ OwnInts wr w.heap.size v (psz (tbl rows) (parts.take j)) ∧ Blk wr (w.heap.size + 1) 78 #[.int .u8 4, .int .i64 el, .int .i64 ma, .slice pa parts.length pc] ∧ Below w.heap.size w wr) (fun _ i _ => parts.length - (intOf i).toNat)
     case atStart => exact ⟨0, Nat.zero_le _, rfl, OwnInts.nil _ _, KX2.out, HB2.out⟩
     case round =>
      obtain ⟨j, hj, rfl, hown, hblk, hbel⟩ := hrel
      have HO := Lib.hid hown
      have HBk := Lib.hid hblk
      have HBl := Lib.hid hbel
      clear hown hblk hbel
      by_cases hlt : j < parts.length
      · obtain ⟨bp, op, x, hpa, hcx, HE⟩ := (HK.out.keep HBl.out).ints.cell hlt
        simp only at hpa
        subst hpa
        obtain ⟨x0, x1, x2⟩ := HPB.out x (by have := mem_getD (d := (0 : Int)) hlt; rwa [HE.out] at this)
        obtain ⟨i, rfl⟩ := Int.eq_ofNat_of_zero_le x0
        have hik : i < k := by omega
        obtain ⟨bs, os, y, rfl, hcy, HY⟩ := (HI.out.sizes.keep HBl.out).cell (k := i) (by rw [sizes_len]; exact hik)
        have HYV : Hid (y = (ofP (tbl rows) (i : Int)).length) := Lib.hid (by rw [← HY.out, sizes_at hik]; rfl)
        have HLN : Hid ((psz (tbl rows) (parts.take j)).length ≤ 1000) := Lib.hid (by rw [psz_len, List.length_take]; omega)
        go_wp2_with (at_builtin; refine wpList_app1 rfl (.tmp 81) (.tmp 86) rfl w.heap.size _ _ rfl y HO.out rfl (by have := HLN.out; omega) HBl.out.size ?_; intro v' w3 hown3 hg3; refine pause ?_)
        have hB3 := (HBl.out.alloc HBl.out.size (.cells #[.int .i64 y] 3)).grown hg3 (by rw [World.size_alloc]; have := HBl.out.size; omega) HO.out.base
        have hK3 := (HBk.out.alloc (.cells #[.int .i64 y] 3)).grown hg3 ((OwnInts.keep HO.out ((Below.refl _ _).alloc (Nat.le_refl _) _)).ne (HBk.out.alloc (.cells #[.int .i64 y] 3)) (by decide))
        have HO3 := Lib.hid hown3
        have HB3 := Lib.hid hB3
        have HK3 := Lib.hid hK3
        clear hown3 hg3 hB3 hK3
        refine resume ?_
        go_wp2_with fail
        go_roundw
        case rel => exact ⟨j + 1, by omega, by go_num, by rw [psz_snoc hlt, HE.out, ← HYV.out]; exact HO3.out, HK3.out, HB3.out⟩
        case measure => simp [intOf]; omega
      · have HFU : Hid (psz (tbl rows) (parts.take j) = psz (tbl rows) parts) := Lib.hid (by rw [List.take_of_length_le (by omega)])
        have HO4 : Hid (OwnInts wr w.heap.size u12 (psz (tbl rows) parts)) := Lib.hid (by have := HO.out; rwa [HFU.out] at this)
        clear HO
        obtain ⟨A4, c4, hv4, hnil4, hints4, hle4, hcap4⟩ := HO4.out.form
        subst hv4
        have HH4 : Hid (Hdr A4 (psz (tbl rows) parts).length c4) := Lib.hid ⟨hle4, hcap4, hnil4⟩
        have HI4 := Lib.hid hints4
        have HLL : Hid ((psz (tbl rows) parts).length = parts.length) := Lib.hid (psz_len _ _)
        clear hnil4 hints4 hle4 hcap4
        have HBD : Hid (∀ x ∈ psz (tbl rows) parts, 0 ≤ x ∧ x ≤ 512) := Lib.hid fun x hx => by
         obtain ⟨p, hp, rfl⟩ := List.mem_map.1 hx
         have := (HPB.out p hp).2.2
         omega
        have HSUM : Hid ((psz (tbl rows) parts).sum = (ofT (tbl rows) k).length) := Lib.hid (by rw [psz_sum, HPS.out])
        have HG : Hid (goodT (tbl rows) k = ((decide (1 ≤ parts.length) && decide (parts.length ≤ 8)) && decide ((ofT (tbl rows) k).length ≤ 32))) := Lib.hid (by
         unfold goodT
         rw [HX.out, ← Bool.and_assoc, HP.out, HL.out]
         simp)
        obtain ⟨sm, hsm⟩ : ∃ sm, (psz (tbl rows) parts).sum = sm := ⟨_, rfl⟩
        have HSM := Lib.hid hsm
        have hc4 := sum_any HH4.out HI4.out HBD.out (by rw [HLL.out]; omega)
        rw [hsm, HLL.out] at hc4
        have HC4 := Lib.hid hc4
        have HV : Hid (sm = (ofT (tbl rows) k).length) := Lib.hid (by rw [← hsm, HSUM.out])
        clear hc4 hsm HSUM HSM HBD HI4 HH4 HO4 HFU
        generalize psz (tbl rows) parts = ys at HLL
        have hyl := HLL.out
        obtain ⟨q, hq⟩ : ∃ q, (ofT (tbl rows) k).length = q := ⟨_, rfl⟩
        rw [hq] at HV HG
        have HQ := Lib.hid hq
        clear hq
        obtain rfl := HV.out
        go_wp2_with fail
        all_goals
         refine HC4.out.mono ?_
         rintro e w5 ⟨rfl, rfl⟩
         go_wp2_with fail
         all_goals go_ret2
         all_goals refine mayAns_of rfl ?_ (fun _ => by rw [HQ.out]) HBl.out
         all_goals rw [HG.out]
         all_goals (first | rfl | (rw [Bool.eq_iff_iff]; simp only [Bool.and_eq_true, Bool.or_eq_true, decide_eq_true_eq, beq_iff_eq, bne_iff_ne, Bool.not_eq_true', beq_eq_false_iff_ne, decide_eq_false_iff_not, Bool.false_eq_true, false_iff, true_iff, iff_false, iff_true, true_and, and_true, false_and, and_false, true_or, or_true, false_or, or_false, ne_eq]; first | done | omega | (intros; omega)) | (rw [Bool.eq_iff_iff]; simp [*]; done) | (rw [Bool.eq_iff_iff]; simp [*]; omega))
theorem may_any {w : World} {A : Option Addr} {c : Nat} {rows : List TyR} {k : Nat} {S : Option Addr} {cs : Nat} (h : MayIn w A c rows k S cs) :
    Calls Tryz.prog 87 #[.slice A rows.length c, .int .i64 k, .slice S k cs] w (MayAns (tbl rows) k w) := by
 by_cases h0 : (rows.getD k default).kind < 1 ∨ 5 < (rows.getD k default).kind
 · exact may0_any h h0
 by_cases h1 : (rows.getD k default).kind = 1 ∨ (rows.getD k default).kind = 2
 · exact may12_any h h1
 by_cases h3 : (rows.getD k default).kind = 3
 · exact may3_any h h3
 by_cases h4 : (rows.getD k default).kind = 4
 · exact may4_any h h4
 · exact may5_any h (by omega)
structure TabFew (w : World) (A : Option Addr) (c : Nat) (rows : List TyR) : Prop where
 tab : TabIn w A c rows
 few : ∀ r ∈ rows, r.parts.length ≤ 1000
theorem TabFew.on {w w' : World} {A : Option Addr} {c : Nat} {rows : List TyR} (h : TabFew w A c rows) (hb : Below w.heap.size w w') : TabFew w' A c rows := ⟨h.tab.on hb, h.few⟩
theorem sizes_snoc (t : List Ty) (k : Nat) : sizesT t (k + 1) = sizesT t k ++ [((ofT t k).length : Int)] := by
 unfold sizesT
 rw [List.range_succ, List.map_append]; rfl
section
variable {w : World} {A : Option Addr} {c : Nat} {rows : List TyR}
set_option maxHeartbeats 800000 in
theorem pcheck_any (h : TabFew w A c rows) : Calls Tryz.prog 41 #[.slice A rows.length c] w fun e w' => e = .returned (.int .i64 (checkT (tbl rows))) ∧ Below w.heap.size w w' := by
 have hl := h.tab.len
 have HX := Lib.hid h
 clear h
 by_cases h16 : 16 < rows.length
 · rw [check_many (by rw [tbl_len]; exact h16)]
   go_enter Tryz.func41, Tryz.ntmps41
   go_wp2_with fail
   go_ret
   exact ⟨rfl, Below.refl _ _⟩
 have H16 : Hid ((tbl rows).length ≤ 16) := Lib.hid (by rw [tbl_len]; omega)
 go_enter Tryz.func41, Tryz.ntmps41
 go_wp2_with fail
 go_loopw [3, 12] (fun v i wr => ∃ k : Nat, k ≤ rows.length ∧ i = .int .i64 k ∧ allGood (tbl rows) k = true ∧ OwnInts wr w.heap.size v (sizesT (tbl rows) k) ∧ Below w.heap.size w wr) (fun _ i _ => rows.length - (intOf i).toNat)
 case atStart => exact ⟨0, Nat.zero_le _, rfl, rfl, OwnInts.nil _ _, Below.refl _ _⟩
 case round =>
  obtain ⟨k, hk, rfl, hgood, hown, hbel⟩ := hrel
  have HG := Lib.hid hgood
  have HB := Lib.hid hbel
  obtain ⟨S, cs, hv, hnil, hints, hle, hcap⟩ := hown.form
  rw [sizes_len] at hv hnil hle
  subst hv
  have HO := Lib.hid hown
  have HM : Hid (k < rows.length → MayIn wr A c rows k S cs) := Lib.hid fun hlt => ⟨HX.out.tab.on hbel, hlt, hgood, ⟨hle, hcap, hnil⟩, hints.more (Nat.zero_le _) (Nat.le_refl _), HX.out.few⟩
  clear hgood hown hbel hnil hints hle hcap
  by_cases hlt : k < rows.length
  · have HC := Lib.hid (may_any (HM.out hlt))
    cases hg : goodT (tbl rows) k with
    | false =>
      have HGF := Lib.hid hg
      clear hg
      go_wp2_with fail
      refine HC.out.mono ?_
      rintro e w1 ⟨n, rfl, hn, hb1⟩
      rw [HGF.out]
      have HB1 := Lib.hid (HB.out.trans (hb1.mono HB.out.size))
      clear hb1 hn
      go_wp2_with fail
      go_ret
      exact ⟨ret_num (check_bad H16.out (k := k) (by rw [tbl_len]; exact hlt) HGF.out).symm, HB1.out⟩
    | true =>
      have HGT := Lib.hid hg
      have hle32 := good_le hg
      clear hg
      go_wp2_with fail
      refine HC.out.mono ?_
      rintro e w1 ⟨n, rfl, hn, hb1⟩
      rw [HGT.out]
      have HN := Lib.hid (hn HGT.out)
      have HO1 := Lib.hid (HO.out.keep hb1)
      have HB1 := Lib.hid (HB.out.trans (hb1.mono HB.out.size))
      have HLN : Hid ((sizesT (tbl rows) k).length ≤ 1000) := Lib.hid (by rw [sizes_len]; have := H16.out; rw [tbl_len] at this; omega)
      clear hb1 hn
      go_wp2_with (at_builtin; refine wpList_app1 rfl (.tmp 24) (.tmp 26) rfl w.heap.size _ _ rfl n HO1.out rfl (by have := HLN.out; omega) HB1.out.size ?_; intro v' w3 hown3 hg3; refine pause ?_)
      have hB3 := (HB1.out.alloc HB1.out.size (.cells #[.int .i64 n] 3)).grown hg3 (by rw [World.size_alloc]; have := HB1.out.size; omega) HO1.out.base
      have HO3 := Lib.hid hown3
      have HB3 := Lib.hid hB3
      clear hown3 hg3 hB3
      refine resume ?_
      go_wp2_with fail
      go_roundw
      case rel => exact ⟨k + 1, by omega, by go_num, allGood_succ HG.out HGT.out, by rw [sizes_snoc, ← HN.out]; exact HO3.out, HB3.out⟩
      case measure => simp [intOf]; omega
  · clear HM
    go_wp2_with fail
    go_ret
    exact ⟨ret_num (check_good H16.out (by rw [tbl_len]; exact allGood_mono HG.out (by omega))).symm, HB.out⟩
end
end Go.Proofs.YtbffebcjimhapaaGreatDoor
