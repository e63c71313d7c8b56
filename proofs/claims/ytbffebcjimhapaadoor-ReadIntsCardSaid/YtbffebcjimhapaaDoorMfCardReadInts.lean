/-
  The statement Rows.ReadIntsSaid: for every input the law returns true, and each argument reads afterwards as before. From the walk (module ReadInts).
-/
import Derived.Test.YtbffebcjimhapaaDoorMg23
import Derived.Test.YtbffebcjimhapaaDoorMfReadInts
namespace Go.Proofs.YtbffebcjimhapaaDoor
set_option linter.unusedVariables false
open Go.ChangeShapes Go.WideShapes Go.ChangeAt Go.RowKit
open Go.ChangeMaps (open_string shut_string)

theorem gTabType : (Tryd.prog.globals[1]?).map (·.type) = some 134 := by kernel_rfl
theorem cellsTab : Tryd.prog.cellsOf 134 = 20 := by kernel_rfl
theorem cellsNum : Tryd.prog.cellsOf 80 = 1 := by kernel_rfl
theorem reads_ReadInts (os : Os) {H : Type} (enc : TypeId × Value → H) : ∃ places, DataW.whole enc Tryd.prog ((laidWorld os).forCall (fun _ _ => 0) ⟨#[], #[.int .i64 0, .string ByteArray.empty], []⟩).memory Tryd.f6.params.toList Rows.readIntsSpec.vars false (#[.int .i64 0, .string ByteArray.empty] : Array Value).toList 8 = some ([.lit (.int .i64 0), .lit (.string [])], [], places) :=
  ⟨[], by kernel_rfl⟩
set_option maxRecDepth 100000 in
theorem lifted_ReadInts (os : Os) (started : os.Started) (H : Type) (enc : TypeId × Value → H) (F : Stop.Interp) :
    ReturnsInHanded {} Tryd.checked os 6 .any ((OpenSpec.ofChange Rows.readIntsSpec).preRow enc Tryd.prog Tryd.f6 Rows.readIntsRow.domain false Rows.readIntsRow.laid) (((OpenSpec.ofChange Rows.readIntsSpec).at F).post enc Tryd.prog Tryd.f6 false true false false) := by
  obtain ⟨places, hx⟩ := reads_ReadInts os enc
  refine returnsInHanded_of_row (C := Tryd.checked) (s := OpenSpec.ofChange Rows.readIntsSpec) own started (by kernel_rfl) Tryd.func6
    (witness_row_at (enc := enc) (C := Tryd.checked) false (laidWorld os) #[.int .i64 0, .string ByteArray.empty] rfl (by kernel_rfl) (by kernel_rfl) (by kernel_rfl)
      (OpenSpec.preRow_of_cond 8 hx (by kernel_rfl) (fun k hk => by cases hk) (by kernel_rfl) (laid_met4 os _))) ?_
  intro W base args ds gs before hval0 hW _ _ _ hL _ _
  have h1 : laidMet Tryd.prog Rows.readIntsRow.laid W := hL
  have htab4 : Tab W := Lib.tabIs_of_head (rest := [("fescue/shape.table", Rows.laid_fescue_shape_table)]) gTab gTabType Tryd.underlying134 Tryd.underlying80 cellsNum cellsTab h1.tail.tail
  have htab : TabW W := tab_of_laid h1.tail.tail.tail
  have hval : ∀ (j : Nat) t v, Tryd.f6.params[j]? = some t → args[j]? = some v → Value.okWide Tryd.prog W .any base t v := hval0
  have hW' := hW
  obtain ⟨p, q, hA0, hV, rfl, hfz, hnd⟩ := hW
  have hA : DataW.TrodAll enc Tryd.prog W 0 (fun _ => true) true Tryd.f6.params.toList args.toList ds p := hA0
  rw [Tryd.params6] at hA hval
  have hK := hA
  obtain ⟨v0, vs0, d0, ds0, p0, q0, hargs, rfl, rfl, h0, r0⟩ := trodAll_cons hA
  obtain ⟨v1, vs1, d1, ds1, p1, q1, rfl, rfl, rfl, h1, r1⟩ := trodAll_cons r0
  obtain ⟨rfl, rfl, rfl⟩ := trodAll_nil r1
  obtain rfl : args = #[v0, v1] := by cases args; simp_all
  obtain ⟨rfl, rfl⟩ := trodVars_none hV
  obtain ⟨a0, rfl, rfl, rfl, w0⟩ := open_int Tryd.underlying2 (hval 0 2 v0 rfl rfl) h0
  obtain ⟨a1, rfl, rfl, rfl, w1⟩ := open_string Tryd.underlying9 (hval 1 9 v1 rfl rfl) h1
  clear hA0 hval0
  refine (walk_ReadInts a0 a1 W w0 w1 htab htab4).mono fun e W' ⟨he, bel⟩ => ?_
  subst he
  exact ⟨_, rfl, _, _, _, [], _, [], hW', trodAll_mk1 (shut_bool Tryd.underlying4 _), trodAll_below laidOut (by kernel_rfl) hK bel, rfl, bel.frame _, fun h => by cases h⟩

theorem readInts_said : Rows.ReadIntsSaid :=
  OpenClaim.holds_of_cond 6 Tryd.f6 rfl rfl rfl rfl rfl rfl rfl ⟨rfl, rfl, rfl, rfl, rfl⟩ rfl rfl rfl rfl rfl (by kernel_rfl) Tryd.func6 (by kernel_rfl)
    (of_decide_eq_true (by kernel_rfl)) (by unfold Func.isWrapper; first | (rw [if_pos (by decide +kernel)]; kernel_rfl) | (rw [if_neg (by decide +kernel)]; exact ⟨rfl, rfl⟩))
    (fun os started H enc _ F => by rw [OpenClaim.pre_eq_preRow]; exact lifted_ReadInts os started H enc F)
/-- No parameter wants a stand-in; the program's own looks are on. -/
theorem readInts_plain (f : FuncId) (fn : Func) (hf : Tryd.pinned.checked.prog.funcNamed "fescue/fescuelaw07.ReadInts" = some f) (hfn : Tryd.pinned.checked.prog.funcs[f]? = some fn) :
    true = Tryd.pinned.checked.prog.looks [] ∧ ∀ (j : Nat) t, fn.params[j]? = some t → Tryd.pinned.checked.prog.wantsStandIn t = false := by
  obtain rfl : f = 6 := Option.some.inj ((show Tryd.prog.funcNamed "fescue/fescuelaw07.ReadInts" = some 6 by kernel_rfl).symm.trans hf) |>.symm
  obtain rfl : fn = Tryd.f6 := (Option.some.inj (Tryd.func6.symm.trans hfn)).symm
  refine ⟨by kernel_rfl, fun j t ht => ?_⟩
  have hall : Tryd.f6.params.all (fun t => Tryd.prog.wantsStandIn t == false) = true := by kernel_rfl
  have := Array.all_eq_true_iff_forall_mem.1 hall t (Array.mem_of_getElem? ht)
  exact eq_of_beq this
theorem readInts_holds : Rows.ReadIntsCardSaid :=
  Claim7.holds_tied_plain_at .later [] _ _ _ _ readInts_said (fun _ h => by cases h) (by kernel_rfl) (fun _ h => by cases h) readInts_row_tie rfl ⟨rfl, rfl⟩ (by kernel_rfl) rfl readInts_plain (by kernel_rfl)
#print axioms readInts_holds
end Go.Proofs.YtbffebcjimhapaaDoor
