/-
  A map of the call's own, from points to pairs of numbers.
-/
import Derived.Test.YtohoihicmmidmaaKnOut
import Derived.Maps.OwnOps
namespace Go.Proofs.Ytohoihicmmidmaa
set_option linter.unusedVariables false
set_option linter.unusedSimpArgs false
open Go.ChangeShapes Go.WideShapes Go.ChangeAt Go.RowKit Kn
open Go.MapKept
open Go.ChangeMaps (setBlock)
open Go.Maps (Keyed)

/-- Block B is a map of n entries that tells f. -/
def KMap (w : World) (B n : Nat) (f : Int → Option (Int × Int)) : Prop :=
  ∃ es clock, w.heap[B]? = some (.map es clock) ∧ Stamped es clock ∧ es.size = n ∧
    (∀ e ∈ es.toList, ∃ (a : Int) (p : Int × Int), e.key = .int .i64 a ∧ (Lit.int .i64 a).wf = true ∧ e.val = arrV p ∧ f a = some p) ∧
    (∀ a p, f a = some p → ∃ e ∈ es.toList, e.key = .int .i64 a)
theorem keyLaw : Keyed Try.prog 3 := Go.Maps.int_keyed Try.underlying3
theorem key_mk {a : Int} (h : (Lit.int .i64 a).wf = true) : keyOf Try.prog 3 (.int .i64 a) = some (.int .i64 a) := Go.Maps.keyOf_int_mk Try.underlying3 h
theorem zeroArr (w : World) : (zeroValue 32).run Try.prog w = .ok (.agg #[.int .i64 0, .int .i64 0]) w := by kernel_rfl
theorem KMap.congr {w : World} {B n : Nat} {f f' : Int → Option (Int × Int)} (h : KMap w B n f) (e : ∀ a, f a = f' a) : KMap w B n f' := by
  have : f = f' := funext e
  exact this ▸ h
theorem KMap.made (w : World) : KMap (w.alloc (.map #[] 0)) w.heap.size 0 (fun _ => none) :=
  ⟨#[], 0, (MapKept.heap_alloc w _).1, stamped_empty 0, rfl, (by simp), fun a p h => by cases h⟩
theorem KMap.kept {w w' : World} {B n : Nat} {f : Int → Option (Int × Int)} (h : KMap w B n f) (hb : w'.heap[B]? = w.heap[B]?) : KMap w' B n f := by
  obtain ⟨es, clock, h1, h2⟩ := h
  exact ⟨es, clock, hb.trans h1, h2⟩
theorem KMap.lt {w : World} {B n : Nat} {f : Int → Option (Int × Int)} (h : KMap w B n f) : B < w.heap.size := by
  obtain ⟨es, clock, h1, _⟩ := h
  exact (Array.getElem?_eq_some_iff.1 h1).1
theorem KMap.len {w : World} {B n : Nat} {f : Int → Option (Int × Int)} (h : KMap w B n f) (ty : TypeId) : (Builtin.len_ #[55] ty #[.map (some B)]).run Try.prog w = .ok (.int .i64 (n : Int)) w := by
  obtain ⟨es, clock, hb, _, hn, _⟩ := h
  subst hn
  simp [Builtin.len_, run_underlying Try.underlying55, MapKept.run_getObj_map hb, goInt, Result.andThen]
theorem look_none {w : World} {B n : Nat} {f : Int → Option (Int × Int)} (c : Bool) (h : KMap w B n f) {a : Int} (ha : (Lit.int .i64 a).wf = true) (hf : f a = none) :
    (Instr.lookup 55 (.map (some B)) (.int .i64 a) c).run Try.prog w = .ok (if c then .tuple #[.agg #[.int .i64 0, .int .i64 0], .bool false] else .agg #[.int .i64 0, .int .i64 0]) w := by
  obtain ⟨es, clock, hb, hs, hn, h1, h2⟩ := h
  have hkeys : ∀ e ∈ es.toList, ∃ l, keyOf Try.prog 3 e.key = some l := fun e he => by
    obtain ⟨b, p, e1, e2, _⟩ := h1 e he
    exact ⟨_, by rw [e1]; exact key_mk e2⟩
  rcases keyLaw.find w (key_mk ha) es.toList hkeys with ⟨h3, h4⟩ | ⟨j, e0, h3, h4, h5⟩
  · cases c <;> simp [Instr.lookup, run_underlying Try.underlying55, MapKept.run_getObj_map hb, keyLaw.check w _ (key_mk ha), h3, zeroArr, Result.andThen]
  · obtain ⟨b, p, e1, e2, e3, e4⟩ := h1 e0 (List.mem_of_getElem? h4)
    rw [h5] at e1
    injection e1 with _ e1
    rw [← e1, hf] at e4
    cases e4
theorem look_some {w : World} {B n : Nat} {f : Int → Option (Int × Int)} (c : Bool) (h : KMap w B n f) {a : Int} {p : Int × Int} (ha : (Lit.int .i64 a).wf = true) (hf : f a = some p) :
    (Instr.lookup 55 (.map (some B)) (.int .i64 a) c).run Try.prog w = .ok (if c then .tuple #[arrV p, .bool true] else arrV p) w := by
  obtain ⟨es, clock, hb, hs, hn, h1, h2⟩ := h
  have hkeys : ∀ e ∈ es.toList, ∃ l, keyOf Try.prog 3 e.key = some l := fun e he => by
    obtain ⟨b, p, e1, e2, _⟩ := h1 e he
    exact ⟨_, by rw [e1]; exact key_mk e2⟩
  rcases keyLaw.find w (key_mk ha) es.toList hkeys with ⟨h3, h4⟩ | ⟨j, e0, h3, h4, h5⟩
  · obtain ⟨e, he, hk⟩ := h2 a p hf
    exact absurd hk (h4 e he)
  · obtain ⟨b, q, e1, e2, e3, e4⟩ := h1 e0 (List.mem_of_getElem? h4)
    rw [h5] at e1
    injection e1 with _ e1
    rw [← e1, hf] at e4
    cases e4
    cases c <;> simp [Instr.lookup, run_underlying Try.underlying55, MapKept.run_getObj_map hb, keyLaw.check w _ (key_mk ha), h3, e3, Result.andThen]
theorem same_key {es : Array MapEntry} {clock : Nat} (hs : Stamped es clock) {j : Nat} {e0 e : MapEntry} (h0 : es.toList[j]? = some e0) (he : e ∈ es.toList) (hk : e.key = e0.key) : e = e0 := by
  have hp := ((stamped_iff es clock).1 hs).2.2
  obtain ⟨i, hi, ei⟩ := List.getElem_of_mem he
  obtain ⟨hj, ej⟩ := List.getElem?_eq_some_iff.1 h0
  rw [List.pairwise_iff_getElem] at hp
  by_cases h1 : i < j
  · exact absurd (by rw [ei, ej]; exact hk) (hp i j hi hj h1)
  · by_cases h2 : j < i
    · exact absurd (by rw [ei, ej]; exact hk.symm) (hp j i hj hi h2)
    · obtain rfl : i = j := by omega
      rw [← ei, ← ej]
/-- A pair put at a point. -/
theorem KMap.put {w : World} {B n : Nat} {f : Int → Option (Int × Int)} (h : KMap w B n f) {a : Int} (p : Int × Int) (ha : (Lit.int .i64 a).wf = true) :
    ∃ w', (Instr.mapUpdate 55 (.map (some B)) (.int .i64 a) (arrV p)).run Try.prog w = .ok () w' ∧ KMap w' B (if (f a).isSome then n else n + 1) (fun b => if b = a then some p else f b) ∧ w.grownBy w' (some B) := by
  obtain ⟨es, clock, hb, hs, hn, h1, h2⟩ := h
  have hkeys : ∀ e ∈ es.toList, ∃ l, keyOf Try.prog 3 e.key = some l := fun e he => by
    obtain ⟨b, p, e1, e2, _⟩ := h1 e he
    exact ⟨_, by rw [e1]; exact key_mk e2⟩
  have hg : ∀ o, w.grownBy (setBlock w B o) (some B) := fun o => ⟨rfl, rfl, rfl, by simp [setBlock], fun i _ hi => ChangeMaps.heap_setBlock_other hb _ (fun e => hi (by rw [e]))⟩
  rcases keyLaw.find w (key_mk ha) es.toList hkeys with ⟨h3, h4⟩ | ⟨j, e0, h3, h4, h5⟩
  · refine ⟨setBlock w B (.map (es.push ⟨.int .i64 a, arrV p, clock⟩) (clock + 1)), ?_, ⟨_, _, ChangeMaps.heap_setBlock_same hb _, stamped_push hs h4, ?_, ?_, ?_⟩, hg _⟩
    · simp [Instr.mapUpdate, run_underlying Try.underlying55, MapKept.run_getObj_map hb, keyLaw.check w false (key_mk ha), h3, MapKept.run_setObj_map _ hb, Result.andThen, setBlock]
    · have : f a = none := by
        cases hf : f a with
        | none => rfl
        | some q =>
          obtain ⟨e, he, hk⟩ := h2 a q hf
          exact absurd hk (h4 e he)
      rw [this]
      simp [hn]
    · intro e he
      simp only [Array.toList_push, List.mem_append, List.mem_singleton] at he
      rcases he with he | rfl
      · obtain ⟨b, q, e1, e2, e3, e4⟩ := h1 e he
        refine ⟨b, q, e1, e2, e3, ?_⟩
        have : b ≠ a := fun e5 => h4 e he (by rw [e1, e5])
        simp [this, e4]
      · exact ⟨a, p, rfl, ha, rfl, by simp⟩
    · intro b q hq
      by_cases e : b = a
      · subst e
        exact ⟨_, by simp only [Array.toList_push, List.mem_append, List.mem_singleton]; exact .inr rfl, rfl⟩
      · simp only [e, if_false] at hq
        obtain ⟨x, hx, hk⟩ := h2 b q hq
        exact ⟨x, by simp only [Array.toList_push, List.mem_append]; exact .inl hx, hk⟩
  · have hj : es[j]? = some e0 := by simpa using h4
    have hm0 := List.mem_of_getElem? h4
    have hkeyf : ∀ e', es[j]? = some e' → ({ e' with key := .int .i64 a, val := arrV p } : MapEntry).key = e'.key := fun e' he' => by rw [hj] at he'; cases he'; exact h5.symm
    have hlist : (es.modify j (fun e' => { e' with key := .int .i64 a, val := arrV p })).toList = es.toList.set j { e0 with key := .int .i64 a, val := arrV p } := by rw [Array.toList_modify, ChangeMaps.modify_eq_set _ _ _ _ h4]
    obtain ⟨b0, q0, e1, e2, e3, e4⟩ := h1 e0 hm0
    rw [h5] at e1
    injection e1 with _ e1
    rw [← e1] at e4
    refine ⟨setBlock w B (.map (es.modify j (fun e' => { e' with key := .int .i64 a, val := arrV p })) clock), ?_, ⟨_, _, ChangeMaps.heap_setBlock_same hb _, stamped_modify hs _ _ (fun _ _ => rfl) (fun e' _ he' => hkeyf e' he'), ?_, ?_, ?_⟩, hg _⟩
    · simp [Instr.mapUpdate, run_underlying Try.underlying55, MapKept.run_getObj_map hb, keyLaw.check w false (key_mk ha), h3, hj, h5, keyLaw.stays w (key_mk ha), MapKept.run_setObj_map _ hb, Result.andThen, setBlock]
    · rw [e4]; simp [hn]
    · intro e he
      rw [hlist] at he
      rcases List.mem_or_eq_of_mem_set he with he' | rfl
      · obtain ⟨b, q, f1, f2, f3, f4⟩ := h1 e he'
        by_cases hba : b = a
        · -- this entry is e0 itself, replaced
          have : e = e0 := same_key hs h4 he' (by rw [f1, hba, h5])
          subst this
          obtain ⟨i, hi, ei⟩ := List.getElem_of_mem he
          rw [List.getElem_set] at ei
          by_cases hij : j = i
          · rw [if_pos hij] at ei
            exact ⟨a, p, by rw [← ei], ha, by rw [← ei], by simp⟩
          · rw [if_neg hij] at ei
            exfalso
            have hp := ((stamped_iff es clock).1 hs).2.2
            rw [List.pairwise_iff_getElem] at hp
            have hi' : i < es.toList.length := by simpa using hi
            obtain ⟨hj', ej⟩ := List.getElem?_eq_some_iff.1 h4
            by_cases hlt : i < j
            · exact hp i j hi' hj' hlt (by rw [ei, ej])
            · exact hp j i hj' hi' (by omega) (by rw [ei, ej])
        · exact ⟨b, q, f1, f2, f3, by simp [hba, f4]⟩
      · exact ⟨a, p, rfl, ha, rfl, by simp⟩
    · intro b q hq
      by_cases e : b = a
      · subst e
        refine ⟨{ e0 with key := .int .i64 b, val := arrV p }, ?_, rfl⟩
        rw [hlist]
        obtain ⟨hj', _⟩ := List.getElem?_eq_some_iff.1 h4
        exact List.mem_iff_getElem.2 ⟨j, by simpa using hj', by simp⟩
      · simp only [e, if_false] at hq
        obtain ⟨x, hx, hk⟩ := h2 b q hq
        refine ⟨x, ?_, hk⟩
        rw [hlist]
        obtain ⟨i, hi, ei⟩ := List.getElem_of_mem hx
        have hne : ¬ j = i := fun h => by
          subst h
          obtain ⟨hj', ej⟩ := List.getElem?_eq_some_iff.1 h4
          rw [ej] at ei
          subst ei
          rw [h5] at hk
          injection hk with _ hk
          exact e hk.symm
        exact List.mem_iff_getElem.2 ⟨i, by simpa using hi, by rw [List.getElem_set, if_neg hne, ei]⟩
/-- .. at the operation, for the walk. -/
theorem wpList_put {w : World} {ops : Array Oper} {rest : List Oper} {o : Oper} {a : Act} {Q : Exit → Act → World → Prop}
    (hg : o.guard = none) (m x v : Operand) (hop : o.op = Op.mapUpdate 55 m x v) (B n : Nat) (f : Int → Option (Int × Int)) (hown : KMap w B n f)
    (k : Int) (p : Int × Int) (hm : a.eval m = .map (some B)) (hx : a.eval x = .int .i64 k) (hv : a.eval v = arrV p) (hk : (Lit.int .i64 k).wf = true)
    (hK : ∀ w', KMap w' B (if (f k).isSome then n else n + 1) (fun b => if b = k then some p else f b) → w.grownBy w' (some B) → wpList Try.prog ops Q rest (a.put o.dst undef) w') :
    wpList Try.prog ops Q (o :: rest) a w := by
  refine wpList_plain hg fun K' hK' => ?_
  obtain ⟨w', hrun, r1, r2⟩ := hown.put p hk
  unfold Oper.wp
  simp [execOp, hop, hm, hx, hv, hrun, Result.andThen]
  exact hK' _ _ (hK w' r1 r2)
end Go.Proofs.Ytohoihicmmidmaa
