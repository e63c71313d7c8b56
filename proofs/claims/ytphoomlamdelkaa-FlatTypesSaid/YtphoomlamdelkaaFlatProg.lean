/-
  The program's walker of types (flat): a struct of five cells that calls itself.
-/
import Derived.Test.YtphoomlamdelkaaFlatRef2
import Derived.Test.YtphoomlamdelkaaTypCells
import Derived.Deep.AppendLies
import Derived.WalkMore
namespace Go.Proofs.Ytphoomlamdelkaa
set_option linter.unusedVariables false
set_option linter.unusedSimpArgs false
open Go.ChangeShapes Go.WideShapes Go.ChangeAt Go.RowKit

/-- What a walk adds: fields (once), or flats of cells. -/
def addT (t : List Ty) (once : Bool) (k : Nat) (f : Nat) : List Int := if once then fldT t k else (flaT t k).map (fun x : Int => x + (f : Int))
/-- The function that is told. -/
def tellF (once : Bool) : FuncId := if once then 58 else 56
def tellV (once : Bool) (k f : Int) : Int := if once then k else f
theorem tell_any (once : Bool) (k f : Int) (w : World) : Calls Try.prog (tellF once) #[.int .i64 k, .int .i64 f] w fun e w' => e = .returned (.int .i64 (tellV once k f)) ∧ w = w' := by
  cases once
  · show Calls Try.prog 56 _ _ _
    go_enter Try.func56, Try.ntmps56
    go_wp2_with fail
    go_ret
    exact ⟨rfl, rfl⟩
  · show Calls Try.prog 58 _ _ _
    go_enter Try.func58, Try.ntmps58
    go_wp2_with fail
    go_ret
    exact ⟨rfl, rfl⟩
def wlkCells (T v : Value) (once : Bool) (f : Int) : Array Value := #[T, .bool once, .func (.func (tellF once)) #[] #[], .int .i64 f, v]
/-- The walker, as it lies. -/
structure Wlk (w : World) (lo g : Nat) (T v : Value) (once : Bool) (f : Int) (acc : List Int) : Prop where
  b : Blk w g 68 (wlkCells T v once f)
  own : OwnInts w lo v acc
  le : lo ≤ g
def SomeWlk (lo g : Nat) (T : Value) (once : Bool) (f : Int) (acc : List Int) (w : World) (e : Ending) (w' : World) : Prop := ∃ v', e = .returned (.tuple #[]) ∧ Wlk w' lo g T v' once f acc ∧ Walked lo g w w'
theorem Wlk.keep {w w' : World} {lo g : Nat} {T v : Value} {once : Bool} {f : Int} {acc : List Int} (h : Wlk w lo g T v once f acc) (hb : Below w.heap.size w w') : Wlk w' lo g T v once f acc := ⟨h.b.beneath hb, h.own.keep hb, h.le⟩
theorem enters_walk : Enters 57 := fun _ _ => by kernel_rfl
theorem enters_tell (once : Bool) : Enters (tellF once) := by cases once <;> exact fun _ _ => by kernel_rfl
theorem Walked.putj {lo gl j : Nat} {w w' : World} (h : Walked lo gl w w') (hl : lo ≤ gl) (u : Value) : Walked lo gl w (w'.setCell ⟨gl, j, none⟩ u) :=
  ⟨h.below.setCell hl u, fun g t cs hb h1 h2 => (h.kept g t cs hb h1 h2).far h1 u⟩
theorem Walked.drew {lo gl : Nat} {w w' : World} (h : Walked lo gl w w') : Walked lo gl w w'.drew := ⟨h.below.drew, fun g t cs hb h1 h2 => h.kept g t cs hb h1 h2⟩
/-- The walker's own field, set. -/
theorem Wlk.setF {w : World} {lo g : Nat} {T v : Value} {once : Bool} {f : Int} {acc : List Int} (h : Wlk w lo g T v once f acc) (f' : Int) : Wlk (w.setCell ⟨g, 3, none⟩ (.int .i64 f')) lo g T v once f' acc :=
  ⟨h.b.put 3 _, h.own.far h.b (by decide), h.le⟩
theorem Wlk.setV {w : World} {lo g : Nat} {T v v' : Value} {once : Bool} {f : Int} {acc' : List Int} (h : Blk w g 68 (wlkCells T v once f)) (ho : OwnInts w lo v' acc') (hl : lo ≤ g) : Wlk (w.setCell ⟨g, 4, none⟩ v') lo g T v' once f acc' :=
  ⟨h.put 4 _, ho.far h (by decide), hl⟩
theorem Wlk.t0 {w : World} {lo g : Nat} {T v : Value} {once : Bool} {f : Int} {acc : List Int} (h : Wlk w lo g T v once f acc) : w.cell? ⟨g, 0, none⟩ = some T ∧ w.cell? ⟨g, 1, none⟩ = some (.bool once) ∧ w.cell? ⟨g, 2, none⟩ = some (.func (.func (tellF once)) #[] #[]) ∧ w.cell? ⟨g, 3, none⟩ = some (.int .i64 f) ∧ w.cell? ⟨g, 4, none⟩ = some v ∧ (∀ i, w.frozen? ⟨g, i, none⟩ = false) :=
  ⟨h.b.cells 0, h.b.cells 1, h.b.cells 2, h.b.cells 3, h.b.cells 4, h.b.free⟩

/-- Part by part. -/
def addP (t : List Ty) (once : Bool) (f : Nat) (ps : List Int) : List Int := if once then ps.flatMap (fldP t) else joinF (fldP t) (flaP t) f ps
theorem addP_snoc (t : List Ty) (once : Bool) (f : Nat) (ps : List Int) (p : Nat) : addP t once f (ps ++ [(p : Int)]) = addP t once f ps ++ addT t once p (f + (ps.flatMap (fldP t)).length) := by
  cases once
  · show joinF _ _ _ _ = joinF _ _ _ _ ++ _
    rw [joinF_snoc]
    show _ = _ ++ (flaT t p).map _
    congr 1
  · show List.flatMap _ _ = List.flatMap _ _ ++ _
    rw [List.flatMap_append, List.flatMap_cons, List.flatMap_nil, List.append_nil]
    rfl
theorem addP_all {t : List Ty} {k : Nat} (once : Bool) (f : Nat) {ps : List Int} (h : fldT t k = ps.flatMap (fldP t) ∧ flaT t k = joinF (fldP t) (flaP t) 0 ps) : addT t once k f = addP t once f ps := by
  cases once
  · show (flaT t k).map _ = joinF _ _ _ _
    rw [h.2, joinF_shift, Int.zero_add]
  · exact h.1
theorem addP_len (t : List Ty) (once : Bool) (f : Nat) (ps : List Int) (h : ∀ p ∈ ps, Good t p.toNat) : (addP t once f ps).length ≤ (ps.flatMap (ofP t)).length ∧ (ps.flatMap (fldP t)).length ≤ (ps.flatMap (ofP t)).length := by
  have h1 : (ps.flatMap (fldP t)).length ≤ (ps.flatMap (ofP t)).length := by
    rw [flatMap_len, flatMap_len]; exact sum_map_le _ _ _ fun p hp => (fla_len (h p hp)).2.1
  refine ⟨?_, h1⟩
  cases once
  · show (joinF _ _ _ _).length ≤ _
    rw [joinF_len, flatMap_len]; exact sum_map_le _ _ _ fun p hp => Nat.le_of_eq (fla_len (h p hp)).1
  · exact h1
theorem flat_take_le {t : List Ty} {ps : List Int} {j : Nat} (h : j < ps.length) : ((ps.take j).flatMap (ofP t)).length + (ofP t (ps.getD j 0)).length ≤ (ps.flatMap (ofP t)).length := by
  have h1 := congrArg List.length (flat_snoc (t := t) h)
  rw [List.length_append] at h1
  have h2 := congrArg (fun l => (l.flatMap (ofP t)).length) (List.take_append_drop (j + 1) ps)
  simp only [List.flatMap_append, List.length_append] at h2
  omega
/-- Element by element. -/
def addA (t : List Ty) (once : Bool) (f el j : Nat) : List Int := if once then (if j = 0 then [] else fldT t el) else (List.replicate j ((flaT t el).map (fun x : Int => x + (f : Int)))).flatten
theorem addA_zero (t : List Ty) (once : Bool) (f el : Nat) : addA t once f el 0 = [] := by cases once <;> rfl
theorem addA_succ (t : List Ty) (once : Bool) (f el j : Nat) (h : once = true → j = 0) : addA t once f el (j + 1) = addA t once f el j ++ addT t once el f := by
  cases once
  · show (List.replicate (j + 1) _).flatten = _
    rw [rep_snoc]; rfl
  · obtain rfl := h rfl
    rfl
theorem addA_all {t : List Ty} {k el m : Nat} (once : Bool) (f : Nat) (h : fldT t k = fldT t el ∧ flaT t k = (List.replicate m (flaT t el)).flatten) (hm : 1 ≤ m) {j : Nat} (hj : once = false → j = m) (hj1 : 1 ≤ j) : addT t once k f = addA t once f el j := by
  cases once
  · obtain rfl := hj rfl
    show (flaT t k).map _ = _
    rw [h.2, List.map_flatten, List.map_replicate]; rfl
  · show fldT t k = if j = 0 then [] else fldT t el
    rw [if_neg (by omega), h.1]
theorem addA_len {t : List Ty} (once : Bool) (f : Nat) {el : Nat} (hg : Good t el) (j : Nat) : (addA t once f el j).length ≤ j * (ofT t el).length := by
  cases once
  · show ((List.replicate j _).flatten).length ≤ _
    rw [rep_len, List.length_map, (fla_len hg).1]; exact Nat.le_refl _
  · show (if j = 0 then [] else fldT t el).length ≤ _
    split
    · simp
    · have h1 := (fla_len hg).2.1
      have := Nat.mul_le_mul_right (ofT t el).length (show 1 ≤ j by omega)
      omega

set_option maxHeartbeats 1600000 in
theorem wlk_any {A : Option Addr} {c : Nat} {rows : List TyR} {lo g : Nat} {once : Bool} : ∀ (k : Nat) (w : World) (v : Value) (f : Nat) (acc : List Int), Hdr A rows.length c → TypsAt w 0 lo A rows → lo ≤ w.heap.size → Good (tbl rows) k → Wlk w lo g (.slice A rows.length c) v once f acc → acc.length + (ofT (tbl rows) k).length ≤ 100000 → f + (ofT (tbl rows) k).length ≤ 100000 →
    Calls Try.prog 57 #[.pointer (some ⟨g, 0, none⟩), .int .i64 k] w (SomeWlk lo g (.slice A rows.length c) once ((f + (fldT (tbl rows) k).length : Nat) : Int) (acc ++ addT (tbl rows) once k f) w) := by
  intro k
  induction k using Nat.strongRecOn with
  | _ k ih =>
  intro w v f acc hh hx hlo hg hbox hacc hff
  have hk : k < rows.length := by have := hg.lt; rwa [tbl_len] at this
  have hl := Nat.le_trans hh.fit hh.cap
  unfold maxLen at hl
  have eg := enters_walk
  have et := enters_tell once
  unfold Enters at eg et
  obtain ⟨b, off, hA, hbl, c0, c1, c2, c3⟩ := (hx.elem hk).at_
  subst hA
  have HD : Hid ((tbl rows).getD k default = (rows.getD k default).data) := Lib.hid (tbl_at hk)
  have hrk := hx.ok _ (mem_getD (d := default) hk)
  have HI := Lib.hid ih
  have HH := Lib.hid hh
  have HG := Lib.hid hg
  have HX := Lib.hid hx
  have HBX := Lib.hid hbox
  have HAC := Lib.hid hacc
  have HFF := Lib.hid hff
  have zl := hbox.b.lt
  obtain ⟨t0, t1, t2, t3, t4, _⟩ := hbox.t0
  have hf1 : (f : Int) ≤ 100000 := by omega
  clear ih hh hg hx hacc hff
  generalize rows.getD k default = r at c0 c1 c2 c3 HD hrk
  obtain ⟨κ, el, ma, pa, pc, parts⟩ := r
  simp only at c0 c1 c2 c3
  have hlp := Nat.le_trans hrk.hdr.fit hrk.hdr.cap
  unfold maxLen at hlp
  simp only at hlp
  have HK := Lib.hid hrk
  have HW0 : Hid (∀ o, Walked lo g w (w.alloc o)) := Lib.hid fun o => (Walked.refl lo g w).alloc hlo o
  have HN := Lib.hid (fun (cs : Array Value) => Blk.new w 31 cs)
  clear hrk hbox
  by_cases e4 : κ = 4
  · subst e4
    clear et
    have hlow : ∀ p ∈ parts, 0 ≤ p ∧ p < k := fun p hp => HG.out.parts p (by rw [HD.out, partsT4 rfl]; exact hp)
    have HFF4 : Hid (fldT (tbl rows) k = parts.flatMap (fldP (tbl rows)) ∧ flaT (tbl rows) k = joinF (fldP (tbl rows)) (flaP (tbl rows)) 0 parts) := Lib.hid (by
      have := ff_struct (t := tbl rows) (k := k) (by rw [HD.out]; rfl) (by rw [HD.out]; exact hlow)
      rw [HD.out] at this
      exact this)
    have HPT : Hid (ofT (tbl rows) k = parts.flatMap (ofP (tbl rows))) := Lib.hid (by
      rw [ofT_parts HG.out (.inl (by rw [HD.out]; rfl)), HD.out, partsT4 rfl]; rfl)
    have HPB := Lib.hid hlow
    have HPG : Hid (∀ p ∈ parts, Good (tbl rows) p.toNat) := Lib.hid fun p hp => HG.out.part (by rw [HD.out, partsT4 rfl]; exact hp)
    clear hlow
    go_enter Try.func57, Try.ntmps57
    go_wp2_with fail
    go_loopw [50] (fun i wr => ∃ (j : Nat) (v1 : Value), j ≤ parts.length ∧ i = .int .i64 j ∧ Blk wr w.heap.size 31 #[.int .u8 4, .int .i64 el, .int .i64 ma, .slice pa parts.length pc] ∧ Wlk wr lo g (.slice (some ⟨b, off, none⟩) rows.length c) v1 once ((f + ((parts.take j).flatMap (fldP (tbl rows))).length : Nat) : Int) (acc ++ addP (tbl rows) once f (parts.take j)) ∧ Walked lo g w wr) (fun i wr => parts.length - (intOf i).toNat)
    case atStart => exact ⟨0, v, Nat.zero_le _, rfl, HN.out _, by rw [List.take_zero]; show Wlk _ _ _ _ _ _ _ (acc ++ addP _ _ _ []); rw [show addP (tbl rows) once f [] = [] by cases once <;> rfl, List.append_nil]; exact HBX.out.keep ((Below.refl _ _).alloc (Nat.le_refl _) _), HW0.out _⟩
    case round =>
      obtain ⟨j, v1, hj, rfl, hblk, hwk, hwd⟩ := hrel
      have HKX := Lib.hid hblk
      have HB1 := Lib.hid hwk
      have HWD := Lib.hid hwd
      clear hblk hwk hwd
      by_cases hlt : j < parts.length
      · obtain ⟨bp, op, x, hpa, hcx, HE⟩ := (HK.out.keep HWD.out.below).ints.cell hlt
        simp only at hpa
        subst hpa
        have hxm : x ∈ parts := by have := mem_getD (d := (0 : Int)) hlt; rwa [HE.out] at this
        obtain ⟨x0, x1⟩ := HPB.out x hxm
        have hgx := HPG.out x hxm
        obtain ⟨i, rfl⟩ := Int.eq_ofNat_of_zero_le x0
        rw [Int.toNat_natCast] at hgx
        have HTK : Hid (parts.take (j + 1) = parts.take j ++ [(i : Int)]) := Lib.hid (by rw [take_succ_getD (d := 0) hlt, HE.out])
        have HLE : Hid ((acc ++ addP (tbl rows) once f (parts.take j)).length + (ofT (tbl rows) i).length ≤ 100000 ∧ (f + ((parts.take j).flatMap (fldP (tbl rows))).length) + (ofT (tbl rows) i).length ≤ 100000) := Lib.hid (by
          have h1 := HAC.out
          have h2 := HFF.out
          have h3 := flat_take_le (t := tbl rows) hlt
          have h4 := addP_len (tbl rows) once f (parts.take j) (fun p hp => HPG.out p (List.mem_of_mem_take hp))
          rw [HPT.out] at h1 h2
          rw [HE.out] at h3
          rw [List.length_append]
          have h5 : (ofP (tbl rows) (i : Int)).length = (ofT (tbl rows) i).length := rfl
          omega)
        have HC := Lib.hid (HI.out i (by omega) wr v1 (f + ((parts.take j).flatMap (fldP (tbl rows))).length) _ HH.out (HX.out.keep HWD.out.below) (Nat.le_trans hlo HWD.out.below.size) hgx HB1.out HLE.out.1 HLE.out.2)
        clear hxm hgx
        go_wp2_with fail
        refine HC.out.mono ?_
        rintro e w2 ⟨v2, rfl, hwk2, hwd2⟩
        have HW2 := Lib.hid (HWD.out.trans hwd2)
        have HK2 := Lib.hid (hwd2.kept _ _ _ HKX.out (by have := HBX.out.b.lt; omega) (by decide))
        have HB2 := Lib.hid hwk2
        clear hwk2 hwd2
        go_wp2_with fail
        go_roundw
        case rel => exact ⟨j + 1, v2, by omega, by go_num, HK2.out, by
          rw [HTK.out, addP_snoc, ← List.append_assoc, List.flatMap_append, List.length_append, ← Nat.add_assoc]
          have := HB2.out
          rw [show (([(i : Int)] : List Int).flatMap (fldP (tbl rows))).length = (fldT (tbl rows) i).length by simp [fldP]]
          exact this, HW2.out⟩
        case measure => simp [intOf]; omega
      · go_wp2_with fail
        go_end0
        exact ⟨v1, rfl, by have := HB1.out; rw [List.take_of_length_le (by omega)] at this; rw [addP_all once f HFF4.out, HFF4.out.1]; exact this, HWD.out⟩
  by_cases e5 : κ = 5
  · subst e5
    clear et
    have hma := may_array HG.out.may (by rw [HD.out]; rfl)
    rw [HD.out] at hma
    simp only [TyR.data] at hma
    obtain ⟨el0, elk, ma1, ma16⟩ := hma
    obtain ⟨i, rfl⟩ := Int.eq_ofNat_of_zero_le el0
    obtain ⟨m, rfl⟩ := Int.eq_ofNat_of_zero_le (show 0 ≤ ma by omega)
    have HFF5 : Hid (fldT (tbl rows) k = fldT (tbl rows) i ∧ flaT (tbl rows) k = (List.replicate m (flaT (tbl rows) i)).flatten) := Lib.hid (by
      have := ff_array (t := tbl rows) (k := k) (by rw [HD.out]; rfl) (by rw [HD.out]; exact ⟨by show (0 : Int) ≤ (i : Int); omega, elk⟩)
      rw [HD.out] at this
      exact this)
    have HPT : Hid ((ofT (tbl rows) k).length = m * (ofT (tbl rows) i).length) := Lib.hid (by
      rw [of_array (by rw [HD.out]; rfl) (by rw [HD.out]; exact ⟨by show (0 : Int) ≤ (i : Int); omega, elk⟩), HD.out, rep_len]; rfl)
    have hik : i < k := by omega
    have HPG : Hid (Good (tbl rows) i) := Lib.hid ⟨HG.out.zero, by have := HG.out.lt; omega⟩
    go_enter Try.func57, Try.ntmps57
    go_wp2_with fail
    go_step3
    go_wp2_with fail
    go_step3
    go_wp2_with fail
    go_loopw [68] (fun i' wr => ∃ (j : Nat) (v1 : Value) (φ : Nat), j ≤ m ∧ (once = true → j ≤ 1) ∧ i' = .int .i64 j ∧ Blk wr w.heap.size 31 #[.int .u8 5, .int .i64 i, .int .i64 m, .slice pa parts.length pc] ∧ Hid (j ≠ 0 → φ = f + (fldT (tbl rows) i).length) ∧ Wlk wr lo g (.slice (some ⟨b, off, none⟩) rows.length c) v1 once (φ : Int) (acc ++ addA (tbl rows) once f i j) ∧ Walked lo g w wr) (fun i' _ => m - (intOf i').toNat)
    case atStart => exact ⟨0, v, f, Nat.zero_le _, fun _ => by omega, rfl, HN.out _, Lib.hid (fun h => absurd rfl h), by rw [addA_zero, List.append_nil]; exact HBX.out.keep ((Below.refl _ _).alloc (Nat.le_refl _) _), HW0.out _⟩
    case round =>
      obtain ⟨j, v1, φ, hj, ho1, rfl, hblk, HPH, hwk, hwd⟩ := hrel
      have HKX := Lib.hid hblk
      have HB1 := Lib.hid hwk
      have HWD := Lib.hid hwd
      have HO1 := Lib.hid ho1
      obtain ⟨s0, s1, s2, s3, s4, s5⟩ := hwk.t0
      have x1 := hblk.cells 1
      have zx := hblk.lt
      have zg := hwk.b.lt
      clear hblk hwk hwd ho1 t0 t1 t2 t3 t4 s0 s2 s4
      by_cases hlt : j < m
      · by_cases hbr : once = true ∧ 0 < j
        · obtain ⟨rfl, hj0⟩ := hbr
          clear s5 s3
          have hj1 := HO1.out rfl
          go_wp2_with fail
          go_end0
          exact ⟨v1, rfl, by rw [addA_all true f HFF5.out (by omega) (j := j) (fun h => by cases h) hj0, HFF5.out.1]; have := HB1.out; rwa [HPH.out (by omega)] at this, HWD.out⟩
        · have HSF := Lib.hid (HB1.out.setF (f : Int))
          have HWF := Lib.hid (HWD.out.putj (j := 3) HBX.out.le (.int .i64 (f : Int)))
          have HJ0 : Hid (once = true → j = 0) := Lib.hid fun h => by
            have : ¬ 0 < j := fun h2 => hbr ⟨h, h2⟩
            omega
          have hbr2 : (once = false) ∨ (once = true ∧ j = 0) := by
            cases once
            · exact .inl rfl
            · exact .inr ⟨rfl, HJ0.out rfl⟩
          have HLE : Hid ((acc ++ addA (tbl rows) once f i j).length + (ofT (tbl rows) i).length ≤ 100000 ∧ f + (ofT (tbl rows) i).length ≤ 100000) := Lib.hid (by
            have h1 := HAC.out
            have h2 := HFF.out
            rw [HPT.out] at h1 h2
            have h4 := addA_len (t := tbl rows) once f HPG.out j
            have h5 := Nat.mul_le_mul_right (ofT (tbl rows) i).length (show j + 1 ≤ m from hlt)
            rw [Nat.add_mul, Nat.one_mul] at h5
            rw [List.length_append]
            omega)
          have HC := Lib.hid (HI.out i hik _ v1 f _ HH.out (HX.out.keep HWF.out.below) (Nat.le_trans hlo HWF.out.below.size) HPG.out HSF.out HLE.out.1 HLE.out.2)
          have HKF : Hid (Blk (wr.setCell ⟨g, 3, none⟩ (.int .i64 (f : Int))) w.heap.size 31 #[.int .u8 5, .int .i64 i, .int .i64 m, .slice pa parts.length pc]) := Lib.hid (HKX.out.far (by show w.heap.size ≠ g; omega) _)
          clear hbr
          rcases hbr2 with rfl | ⟨rfl, rfl⟩
          all_goals
            go_wp2_with fail
            refine HC.out.mono ?_
            rintro e w2 ⟨v2, rfl, hwk2, hwd2⟩
            have HW2 := Lib.hid (HWF.out.trans hwd2)
            have HK2 := Lib.hid (hwd2.kept _ _ _ HKF.out (by have := HBX.out.b.lt; omega) (by decide))
            have HB2 := Lib.hid hwk2
            clear hwk2 hwd2
            go_wp2_with fail
            go_roundw
            case rel => first
              | exact ⟨j + 1, v2, _, by omega, (fun h => by cases h), by go_num, HK2.out, Lib.hid fun _ => rfl, by rw [addA_succ _ _ _ _ _ HJ0.out, ← List.append_assoc]; exact HB2.out, HW2.out⟩
              | exact ⟨1, v2, _, by omega, (fun _ => Nat.le_refl _), by go_num, HK2.out, Lib.hid fun _ => rfl, by rw [addA_succ _ _ _ _ 0 (fun _ => rfl), ← List.append_assoc]; exact HB2.out, HW2.out⟩
            case measure => simp [intOf]; omega
      · have hjm : j = m := by omega
        clear s5 s3
        go_wp2_with fail
        go_end0
        exact ⟨v1, rfl, by rw [addA_all once f HFF5.out (by omega) (j := j) (fun h => hjm) (by omega), HFF5.out.1]; have := HB1.out; rwa [HPH.out (by omega)] at this, HWD.out⟩
  have HS := Lib.hid (ff_scalar (t := tbl rows) (k := k) (by rw [HD.out]; exact e4) (by rw [HD.out]; exact e5))
  have hFL : Hid (fldT (tbl rows) k = [(k : Int)] ∧ addT (tbl rows) once k f = [tellV once k f]) := Lib.hid (by
    refine ⟨HS.out.1, ?_⟩
    cases once
    · show (flaT _ _).map _ = _
      rw [HS.out.2]
      show [0 + (f : Int)] = [(f : Int)]
      rw [Int.zero_add]
    · exact HS.out.1)
  obtain ⟨tv, htv⟩ : ∃ tv, tellV once k f = tv := ⟨_, rfl⟩
  rw [htv] at hFL
  have HT := Lib.hid (fun w => tell_any once k f w)
  rw [htv] at HT
  clear htv
  obtain ⟨W, hWW⟩ : ∃ W, w.alloc (.cells #[.int .u8 κ, .int .i64 el, .int .i64 ma, .slice pa parts.length pc] 31) = W := ⟨_, rfl⟩
  have HB2 : Hid (Wlk W lo g (.slice (some ⟨b, off, none⟩) rows.length c) v once f acc) := Lib.hid (by rw [← hWW]; exact HBX.out.keep ((Below.refl _ _).alloc (Nat.le_refl _) _))
  have HW2 : Hid (Walked lo g w W) := Lib.hid (by rw [← hWW]; exact HW0.out _)
  have HWW := Lib.hid hWW
  have hown := HB2.out.own
  have HOW := Lib.hid hown
  have HBW := Lib.hid HB2.out.b
  obtain ⟨A0, c0', rfl, _⟩ := hown.form
  have hacc2 : acc.length ≤ 100000 := by have := HAC.out; omega
  have hlo2 : lo ≤ W.heap.size := Nat.le_trans hlo HW2.out.below.size
  have hne : (Value.slice A0 acc.length c0').ownBlock ≠ some g := HOW.out.ne HBW.out (by decide)
  have HNE := Lib.hid hne
  obtain ⟨i0, hi, hz0, hz1, hz2⟩ := info_parts intInfo
  have HI0 := Lib.hid hi
  have HZ0 := Lib.hid hz0
  have HZ1 := Lib.hid hz1
  have HZ2 := Lib.hid hz2
  clear hi hz0 hz1 hz2 hown hWW hne
  go_enter Try.func57, Try.ntmps57
  go_wp2_with fail
  rw [HWW.out]
  have HBD : Hid (Blk W.drew g 68 (wlkCells (.slice (some ⟨b, off, none⟩) rows.length c) (.slice A0 acc.length c0') once f)) := Lib.hid HBW.out.drew
  obtain ⟨s0, s1, s2, s3, s4, s5⟩ := HB2.out.t0
  have zg := HB2.out.b.lt
  clear s0 s1 t0 t1 t2 t3 t4
  go_region_law (first
    | (refine step_append_lies _ (by rfl) _ _ _ (by rfl) lo 3 i0 _ 1 8 Try.underlying29 HI0.out HZ0.out HZ1.out HZ2.out rfl (by omega) (.slice A0 acc.length c0') acc.length (acc.map (Value.int .i64)) (by rfl) (by exact (World.ownsRow.alloc HOW.out _).drew)
        ⟨W.heap.size, 0, none⟩ 1 1 [.int .i64 tv] (by rfl) (by rfl) (World.news_of_block (cs := #[.int .i64 tv]) (t := 3) (fr := (0, 0)) (heap_alloc_new W _)) (by simp [Value.oneCell'])
        (by omega) (by unfold maxLen; omega) (by omega) (by simp; omega) (W.heap.size + 1) (by simp) ?_
       intro gg cap w1 hown1 hgrow hat hlt
       have hbk := Blk.grown ((HBW.out.alloc _).drew) hgrow HNE.out
       have k4 : w1.cell? ⟨g, 4, none⟩ = some (.slice A0 acc.length c0') := hbk.cells 4
       have k3 : w1.cell? ⟨g, 3, none⟩ = some (.int .i64 f) := hbk.cells 3
       have f4 := hbk.free 4
       have f3 := hbk.free 3
       have HK1 := Lib.hid hbk
       have HO1 := Lib.hid hown1
       have HG1 := Lib.hid hgrow
       clear hbk hown1 hgrow hat hlt)
    | (go_simp; refine (HT.out _).mono ?_; rintro e w1 ⟨rfl, rfl⟩))
  all_goals
    have hO2 : OwnInts w1 lo (.slice (some ⟨gg, 0, none⟩) (acc.length + 1) cap) (acc ++ [tv]) := by
      unfold OwnInts; rw [List.length_append, List.map_append]; exact HO1.out
    have HW5 : Hid (Wlk ((w1.setCell ⟨g, 4, none⟩ (.slice (some ⟨gg, 0, none⟩) (acc.length + 1) cap)).setCell ⟨g, 3, none⟩ (.int .i64 ((f : Int) + 1))) lo g (.slice (some ⟨b, off, none⟩) rows.length c) (.slice (some ⟨gg, 0, none⟩) (acc.length + 1) cap) once ((f : Int) + 1) (acc ++ [tv])) := Lib.hid (Wlk.setF (Wlk.setV HK1.out hO2 HBX.out.le) _)
    have HD5 : Hid (Walked lo g w ((w1.setCell ⟨g, 4, none⟩ (.slice (some ⟨gg, 0, none⟩) (acc.length + 1) cap)).setCell ⟨g, 3, none⟩ (.int .i64 ((f : Int) + 1)))) := Lib.hid ((((((HW2.out.alloc hlo2 (.cells #[.int .i64 tv] 3)).drew).grown (HOW.out.keep (((Below.refl _ _).alloc (Nat.le_refl _) _).drew)) (by show lo ≤ (W.alloc _).heap.size; rw [World.size_alloc]; omega) HG1.out).putj (j := 4) HBX.out.le _)).putj (j := 3) HBX.out.le _)
    have hgl := HK1.out.lt
    clear hO2
    go_wp2_with fail
    go_end0
    exact ⟨_, rfl, by rw [hFL.out.1, hFL.out.2]; exact HW5.out, HD5.out⟩
end Go.Proofs.Ytphoomlamdelkaa
