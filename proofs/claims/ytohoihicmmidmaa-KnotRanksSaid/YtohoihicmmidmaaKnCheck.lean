/-
  Whether a graph may be: the program's check (with slices.ContainsFunc at arrows), the document's.
-/
import Derived.Test.YtohoihicmmidmaaKnData
namespace Go.Proofs.Ytohoihicmmidmaa
set_option linter.unusedVariables false
set_option linter.unusedSimpArgs false
open Go.ChangeShapes Go.WideShapes Go.ChangeAt Go.RowKit Kn

def Enters (F : FuncId) : Prop := ∀ args w, (callFunc F args).run Try.prog w = .ok (.enter F args) w
/-- A function value that answers by a predicate, wherever a world is as w was. -/
structure AnswersBy (w : World) (F : FuncId) (cap : Array Value) (xs : List (Int × Int)) (P : Int × Int → Bool) : Prop where
  enters : Enters F
  calls : ∀ (W : World) (v : Int × Int), Below w.heap.size w W → v ∈ xs → Calls Try.prog F (#[arrV v] ++ cap) W fun e w' => e = .returned (.bool (P v)) ∧ Below W.heap.size W w'
def SomeIndex (b : Bool) (w : World) (e : Ending) (w' : World) : Prop := ∃ r : Int, e = .returned (.int .i64 r) ∧ decide (0 ≤ r) = b ∧ Below w.heap.size w w'
theorem any_of_none {P : Int × Int → Bool} {xs : List (Int × Int)} {k : Nat} (h : AllTo (fun x => !P x) xs k) (hk : xs.length ≤ k) : xs.any P = false := by
  have := h.done hk
  rw [List.any_eq_not_all_not, this]; rfl
theorem any_of_some {P : Int × Int → Bool} {xs : List (Int × Int)} {k : Nat} (hk : k < xs.length) (hp : P (xs.getD k (0, 0)) = true) : xs.any P = true := by
  rw [List.any_eq_true]
  exact ⟨_, getD_memA hk, hp⟩
theorem indexFunc_any {w : World} {A : Option Addr} {c : Nat} {xs : List (Int × Int)} (hx : GIn w A c xs) (F : FuncId) (cap : Array Value) (P : Int × Int → Bool) (hf : AnswersBy w F cap xs P) :
    Calls Try.prog 34 #[.slice A xs.length c, .func (.func F) #[] cap] w (SomeIndex (xs.any P) w) := by
  have hl := hx.len
  have HX := Lib.hid hx
  have HF := Lib.hid hf
  have eg := hf.enters
  unfold Enters at eg
  clear hx hf
  go_enter Try.func34, Try.ntmps34
  go_wp2_with fail
  go_loopw [8] (fun i wr => ∃ k : Nat, k ≤ xs.length ∧ i = .int .i64 k ∧ AllTo (fun x => !P x) xs k ∧ Below w.heap.size w wr) (fun i _ => xs.length - (intOf i).toNat)
  case atStart => exact ⟨0, Nat.zero_le _, rfl, AllTo.zero _ _, Below.refl _ _⟩
  case round =>
    obtain ⟨k, hk, rfl, hall, hbel⟩ := hrel
    have HA := Lib.hid hall
    have HB := Lib.hid hbel
    clear hall hbel
    by_cases hlt : k < xs.length
    · obtain ⟨b, off, x, y, rfl, hbk, v0, v1, HE⟩ := (HX.out.on HB.out).elem hlt
      have hxm : (x, y) ∈ xs := by have := getD_memA hlt; rwa [HE.out] at this
      have HC := Lib.hid (HF.out.calls wr (x, y) HB.out hxm)
      unfold arrV at HC
      simp only at HC
      clear hxm
      cases hp : P (x, y) with
      | true =>
        rw [hp] at HC
        have HP := Lib.hid hp
        clear hp
        go_wp2_with fail
        refine HC.out.mono ?_
        rintro e w1 ⟨rfl, hb1⟩
        have HB1 := Lib.hid (HB.out.trans (hb1.mono HB.out.size))
        clear hb1
        go_wp2_with fail
        go_ret
        exact ⟨_, rfl, by rw [any_of_some hlt (by rw [HE.out]; exact HP.out)]; simp, HB1.out⟩
      | false =>
        rw [hp] at HC
        have HP := Lib.hid hp
        clear hp
        go_wp2_with fail
        refine HC.out.mono ?_
        rintro e w1 ⟨rfl, hb1⟩
        have HB1 := Lib.hid (HB.out.trans (hb1.mono HB.out.size))
        clear hb1
        go_wp2_with fail
        go_roundw
        case rel => exact ⟨k + 1, by omega, by go_num, HA.out.step (d := (0, 0)) hlt (by rw [HE.out, HP.out]; rfl), HB1.out⟩
        case measure => simp [intOf]; omega
    · go_wp2_with fail
      go_ret
      exact ⟨_, rfl, by rw [any_of_none HA.out (by omega)]; rfl, HB.out⟩
theorem containsFunc_any {w : World} {A : Option Addr} {c : Nat} {xs : List (Int × Int)} (hx : GIn w A c xs) (F : FuncId) (cap : Array Value) (P : Int × Int → Bool) (hf : AnswersBy w F cap xs P) :
    Calls Try.prog 23 #[.slice A xs.length c, .func (.func F) #[] cap] w fun e w' => e = .returned (.bool (xs.any P)) ∧ Below w.heap.size w w' := by
  have HI := Lib.hid (indexFunc_any hx F cap P hf)
  clear hx hf
  go_enter Try.func23, Try.ntmps23
  go_wp2_with fail
  refine HI.out.mono ?_
  rintro e w1 ⟨r, rfl, hr, hb1⟩
  have HR := Lib.hid hr
  have HB := Lib.hid hb1
  clear hr hb1
  go_wp2_with fail
  go_ret
  exact ⟨ret_bool HR.out, HB.out⟩

theorem enters_check1 : Enters 30 := fun _ _ => by kernel_rfl
theorem badA_min {n x y : Int} : badA n (x, y) = (decide (min x y < 0) || decide (n ≤ max x y)) := by
  unfold badA
  rw [Bool.eq_iff_iff]
  simp only [Bool.or_eq_true, decide_eq_true_eq]
  omega
theorem check1_any {w : World} {g : Nat} {n : Int} (hg : w.cell? ⟨g, 0, none⟩ = some (.int .i64 n)) (x y : Int) :
    Calls Try.prog 30 #[.agg #[.int .i64 x, .int .i64 y], .pointer (some ⟨g, 0, none⟩)] w fun e w' => e = .returned (.bool (badA n (x, y))) ∧ Below w.heap.size w w' := by
  have hb0 : Below w.heap.size w (w.alloc (.cells #[.int .i64 x, .int .i64 y] 32)) := (Below.refl _ _).alloc (Nat.le_refl _) _
  have HB0 := Lib.hid hb0
  have zg := World.block_lt_of_cell? _ _ hg
  simp only at zg
  rw [badA_min]
  obtain ⟨a, ha⟩ : ∃ a, min x y = a := ⟨_, rfl⟩
  obtain ⟨b, hb⟩ : ∃ b, max x y = b := ⟨_, rfl⟩
  rw [ha, hb]
  clear hb0
  by_cases h1 : a < 0
  · have HR : Hid ((decide (a < 0) || decide (n ≤ b)) = true) := Lib.hid (by simp [h1])
    go_enter Try.func30, Try.ntmps30
    go_wp2_with fail
    go_ret
    exact ⟨ret_bool HR.out.symm, HB0.out⟩
  · have HR : Hid ((decide (a < 0) || decide (n ≤ b)) = decide (n ≤ b)) := Lib.hid (by simp [h1])
    go_enter Try.func30, Try.ntmps30
    go_wp2_with fail
    go_ret
    exact ⟨ret_bool HR.out.symm, HB0.out⟩
theorem check_any {w : World} {A : Option Addr} {c : Nat} {l : List (Int × Int)} (hx : GIn w A c l) (n : Int) :
    Calls Try.prog 19 #[.int .i64 n, .slice A l.length c] w fun e w' => e = .returned (.int .i64 (checkG n l)) ∧ Below w.heap.size w w' := by
  have hl := hx.len
  have hb0 : Below w.heap.size w (w.alloc (.cells #[.int .i64 n] 3)) := (Below.refl _ _).alloc (Nat.le_refl _) _
  have hgg : (w.alloc (.cells #[.int .i64 n] 3)).cell? ⟨w.heap.size, 0, none⟩ = some (.int .i64 n) := (Blk.new w 3 #[.int .i64 n]).cells 0
  have HB0 := Lib.hid hb0
  have HC := Lib.hid (containsFunc_any (hx.on hb0) 30 #[.pointer (some ⟨w.heap.size, 0, none⟩)] (badA n) ⟨enters_check1, fun W v hW hv => check1_any (g := w.heap.size) ((hW.cell (p := ⟨w.heap.size, 0, none⟩) (by rw [World.size_alloc]; show w.heap.size < _; omega)).trans hgg) v.1 v.2⟩)
  clear hx hb0 hgg
  obtain ⟨q, hq⟩ : ∃ q, l.any (badA n) = q := ⟨_, rfl⟩
  rw [hq] at HC
  have HQ := Lib.hid hq
  clear hq
  by_cases h1 : 1000 < n
  · have HR : Hid (checkG n l = 4) := Lib.hid (by unfold checkG; rw [if_pos (.inl h1)])
    go_enter Try.func19, Try.ntmps19
    go_wp2_with fail
    go_ret
    exact ⟨ret_num HR.out.symm, HB0.out⟩
  by_cases h2 : (10000 : Int) < l.length
  · have HR : Hid (checkG n l = 4) := Lib.hid (by unfold checkG; rw [if_pos (.inr (by omega))])
    go_enter Try.func19, Try.ntmps19
    go_wp2_with fail
    go_ret
    exact ⟨ret_num HR.out.symm, HB0.out⟩
  by_cases h3 : n < 0
  · have HR : Hid (checkG n l = 2) := Lib.hid (by unfold checkG; rw [if_neg (by omega), if_pos (.inl h3)])
    go_enter Try.func19, Try.ntmps19
    go_wp2_with fail
    go_ret
    exact ⟨ret_num HR.out.symm, HB0.out⟩
  have HR : Hid (checkG n l = if q then 2 else 0) := Lib.hid (by
    unfold checkG; rw [if_neg (by omega), HQ.out]
    cases q <;> simp [h3])
  go_enter Try.func19, Try.ntmps19
  go_wp2_with fail
  refine HC.out.mono ?_
  rintro e w1 ⟨rfl, hb1⟩
  have HB1 := Lib.hid (HB0.out.trans (hb1.mono HB0.out.size))
  clear hb1
  cases q
  · go_wp2_with fail
    go_ret
    exact ⟨ret_num HR.out.symm, HB1.out⟩
  · go_wp2_with fail
    go_ret
    exact ⟨ret_num HR.out.symm, HB1.out⟩
/-- The document's. -/
theorem rcheck_any {w : World} {A : Option Addr} {c : Nat} {l : List (Int × Int)} (hx : GIn w A c l) (n : Int) :
    Calls Try.prog 25 #[.int .i64 n, .slice A l.length c] w fun e w' => e = .returned (.int .i64 (checkG n l)) ∧ Below w.heap.size w w' := by
  have hl := hx.len
  have HX := Lib.hid hx
  clear hx
  by_cases h1 : 1000 < n
  · have HR : Hid (checkG n l = 4) := Lib.hid (by unfold checkG; rw [if_pos (.inl h1)])
    go_enter Try.func25, Try.ntmps25
    go_wp2_with fail
    go_ret
    exact ⟨ret_num HR.out.symm, Below.refl _ _⟩
  by_cases h2 : (10000 : Int) < l.length
  · have HR : Hid (checkG n l = 4) := Lib.hid (by unfold checkG; rw [if_pos (.inr (by omega))])
    go_enter Try.func25, Try.ntmps25
    go_wp2_with fail
    go_ret
    exact ⟨ret_num HR.out.symm, Below.refl _ _⟩
  have HR : Hid (∀ b, (n < 0 ∨ l.any (badA n) = true → b = 2) → (¬ (n < 0 ∨ l.any (badA n) = true) → b = (0 : Int)) → checkG n l = b) := Lib.hid (fun b h3 h4 => by
    unfold checkG; rw [if_neg (by omega)]
    split
    · rename_i h; exact (h3 h).symm
    · rename_i h; exact (h4 h).symm)
  go_enter Try.func25, Try.ntmps25
  go_wp2_with fail
  go_loopw [5] (fun i wr => ∃ k : Nat, k ≤ l.length ∧ i = .int .i64 k ∧ AllTo (fun x => !badA n x) l k ∧ Below w.heap.size w wr) (fun i _ => l.length - (intOf i).toNat)
  case atStart => exact ⟨0, Nat.zero_le _, rfl, AllTo.zero _ _, Below.refl _ _⟩
  case round =>
    obtain ⟨k, hk, rfl, hall, hbel⟩ := hrel
    have HA := Lib.hid hall
    have HB := Lib.hid hbel
    clear hall hbel
    by_cases hlt : k < l.length
    · obtain ⟨b, off, x, y, rfl, hbk, v0, v1, HE⟩ := (HX.out.on HB.out).elem hlt
      cases hbd : badA n (x, y) with
      | true =>
        have HP : Hid (l.any (badA n) = true) := Lib.hid (any_of_some hlt (by rw [HE.out]; exact hbd))
        unfold badA at hbd
        simp only [Bool.or_eq_true, decide_eq_true_eq] at hbd
        by_cases c1 : x < 0
        · go_wp2_with fail
          go_ret
          exact ⟨ret_num (HR.out 2 (fun _ => rfl) (fun h => absurd (.inr HP.out) h)).symm, HB.out⟩
        by_cases c2 : n ≤ x
        · go_wp2_with fail
          go_ret
          exact ⟨ret_num (HR.out 2 (fun _ => rfl) (fun h => absurd (.inr HP.out) h)).symm, HB.out⟩
        by_cases c3 : y < 0
        · go_wp2_with fail
          go_ret
          exact ⟨ret_num (HR.out 2 (fun _ => rfl) (fun h => absurd (.inr HP.out) h)).symm, HB.out⟩
        have c4 : n ≤ y := by omega
        clear hbd
        go_wp2_with fail
        go_ret
        exact ⟨ret_num (HR.out 2 (fun _ => rfl) (fun h => absurd (.inr HP.out) h)).symm, HB.out⟩
      | false =>
        have HP := Lib.hid hbd
        obtain ⟨c1, c2, c3, c4⟩ := badA_iff.1 hbd
        simp only at c1 c2 c3 c4
        have d1 : ¬ x < 0 := by omega
        have d2 : ¬ n ≤ x := by omega
        have d3 : ¬ y < 0 := by omega
        have d4 : ¬ n ≤ y := by omega
        clear hbd c1 c2 c3 c4
        go_wp2_with fail
        go_roundw
        case rel => exact ⟨k + 1, by omega, by go_num, HA.out.step (d := (0, 0)) hlt (by rw [HE.out, HP.out]; rfl), HB.out⟩
        case measure => simp [intOf]; omega
    · have HN : Hid (l.any (badA n) = false) := Lib.hid (any_of_none HA.out (by omega))
      by_cases h3 : n < 0
      · go_wp2_with fail
        go_ret
        exact ⟨ret_num (HR.out 2 (fun _ => rfl) (fun h => absurd (.inl h3) h)).symm, HB.out⟩
      · go_wp2_with fail
        go_ret
        exact ⟨ret_num (HR.out 0 (fun h => by rcases h with h | h; exact absurd h (by omega); rw [HN.out] at h; cases h) (fun _ => rfl)).symm, HB.out⟩
/-- The law's own guard. -/
def greatG (n : Int) (l : List (Int × Int)) : Bool := (decide (60 < n) && decide (n ≤ 1000)) || decide (200 < l.length)
theorem great_any {w : World} {A : Option Addr} {c : Nat} {l : List (Int × Int)} (hx : GIn w A c l) (n : Int) :
    Calls Try.prog 9 #[.int .i64 n, .slice A l.length c] w fun e w' => e = .returned (.bool (greatG n l)) ∧ w = w' := by
  have hl := hx.len
  have HR : Hid (∀ b, (((60 < n ∧ n ≤ 1000) ∨ (200 : Int) < l.length) ↔ b = true) → greatG n l = b) := Lib.hid (fun b hb => by
    unfold greatG
    rw [Bool.eq_iff_iff, ← hb]
    simp only [Bool.or_eq_true, Bool.and_eq_true, decide_eq_true_eq]
    omega)
  clear hx
  by_cases h1 : 60 < n
  · by_cases h2 : n ≤ 1000
    · go_enter Try.func9, Try.ntmps9
      go_wp2_with fail
      go_ret
      exact ⟨ret_bool (HR.out true (by simp; omega)).symm, rfl⟩
    · by_cases h3 : (200 : Int) < l.length
      all_goals
        go_enter Try.func9, Try.ntmps9
        go_wp2_with fail
        go_ret
        exact ⟨ret_bool (HR.out _ (by simp; omega)).symm, rfl⟩
  · by_cases h3 : (200 : Int) < l.length
    all_goals
      go_enter Try.func9, Try.ntmps9
      go_wp2_with fail
      go_ret
      exact ⟨ret_bool (HR.out _ (by simp; omega)).symm, rfl⟩
end Go.Proofs.Ytohoihicmmidmaa
