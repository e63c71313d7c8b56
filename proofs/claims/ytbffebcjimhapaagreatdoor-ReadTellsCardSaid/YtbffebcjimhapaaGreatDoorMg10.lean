/-
  The walk of strings.CutPrefix. And what stands on it: NumRead, NumRead2.
-/
import Derived.Test.YtbffebcjimhapaaGreatDoorMg9
import Derived.Test.YtbffebcjimhapaaGreatDoorProg
import Derived.WalkKit
import Derived.ProofKit
import Derived.OpenShut
import Derived.Outline
import Derived.WalkSpells
import Derived.WalkLawsBesides
import Derived.Lib.Strings
import Derived.Lib.IndexBytes
import Derived.Recover
import Derived.Defers
import Derived.BigQuiet
import Derived.RegionTactic
import Derived.ChangeAlike
import Derived.Deep.Cut
namespace Go.Proofs.YtbffebcjimhapaaGreatDoor
set_option linter.unusedVariables false
set_option linter.unusedSimpArgs false
open Go.ChangeShapes Go.WideShapes Go.ChangeAt Go.RowKit Go.Lib
def Signed (s : ByteArray) (m : Bool) (r : ByteArray) : Prop :=
 (m = true ∧ 1 ≤ s.size ∧ s.data.toList.head? = some 45 ∧ r = s.extract 1 s.size) ∨ (m = false ∧ s.data.toList.head? ≠ some 45 ∧ r = s)
theorem signed_ex (s : ByteArray) : ∃ m r, Signed s m r := by
 by_cases h : s.data.toList.head? = some 45
 · refine ⟨true, _, .inl ⟨rfl, ?_, h, rfl⟩⟩
   rcases Nat.eq_zero_or_pos s.size with h0 | h0
   · have : s.data.toList = [] := List.eq_nil_of_length_eq_zero (by simpa using h0)
     rw [this] at h; cases h
   · exact h0
 · exact ⟨false, s, .inr ⟨rfl, h, rfl⟩⟩
theorem first_eq {s : ByteArray} (h : 1 ≤ s.size) : (s.extract 0 1).toList = [45] ↔ s.data.toList.head? = some 45 := by
 rw [ByteArray.toList_eq, extract_data]
 have hl : s.data.toList.length = s.size := by simp
 generalize s.data.toList = l at *
 cases l with
 | nil => simp at hl; omega
 | cons a l => simp
theorem cut_is (s : ByteArray) (m : Bool) (r : ByteArray) (h : Signed s m r) (w : World) :
 Calls Tryz.prog 159 #[.string s, .string ⟨#[45]⟩] w fun e w' => e = .returned (.tuple #[.string r, .bool m]) ∧ w = w' := by
 rcases h with ⟨rfl, h1, h2, rfl⟩ | ⟨rfl, h2, rfl⟩
 · have hb : ((s.extract 0 1).toList == [45]) = true := by rw [(first_eq h1).2 h2]; rfl
   have q1 : (1 : Int) ≤ s.size := by omega
   clear h2
   go_enter Tryz.func159, Tryz.ntmps159
   go_wp2
   go_ret2
   exact ⟨rfl, rfl⟩
 · by_cases h0 : r.size = 0
   · have q1 : (r.size : Int) < 1 := by omega
     clear h2
     go_enter Tryz.func159, Tryz.ntmps159
     go_wp2
     go_ret2
     exact ⟨rfl, rfl⟩
   · have h1 : 1 ≤ r.size := by omega
     have hb : ((r.extract 0 1).toList == [45]) = false := beq_eq_false_iff_ne.2 fun e => h2 ((first_eq h1).1 e)
     have q1 : (1 : Int) ≤ r.size := by omega
     clear h2 h0
     go_enter Tryz.func159, Tryz.ntmps159
     go_wp2
     go_ret2
     exact ⟨rfl, rfl⟩
theorem late_bad (a b : Addr) (er n : Int) (h : (er != 0) = true) (w : World) (u : FrameMode) (hc : w.cell? a = some (.int .i64 er)) (hn : w.cell? b = some (.int .i64 n)) (hf : w.frozen? b = false) :
 CallsD Tryz.prog 172 #[.pointer (some a), .pointer (some b)] u w fun e u' w' => u' = u ∧ (e = .returned (.tuple #[]) ∧ w' = w.setCell b (.int .i64 0)) := by
 go_enter_d Tryz.func172, Tryz.ntmps172
 go_wp2
 go_end0
 exact ⟨rfl, rfl⟩
theorem late_well (a b : Addr) (w : World) (u : FrameMode) (hc : w.cell? a = some (.int .i64 0)) :
 CallsD Tryz.prog 172 #[.pointer (some a), .pointer (some b)] u w fun e u' w' => u' = u ∧ (e = .returned (.tuple #[]) ∧ w' = w) := by
 go_enter_d Tryz.func172, Tryz.ntmps172
 go_wp2
 go_end0
 exact ⟨rfl, rfl⟩
theorem late_bad' (a b : Addr) (er : Int) (h : (er != 0) = true) (w : World) (u : FrameMode) (hc : w.cell? a = some (.int .i64 er)) (hn : ∃ n : Int, w.cell? b = some (.int .i64 n)) (hf : w.frozen? b = false) :
 CallsD Tryz.prog 172 #[.pointer (some a), .pointer (some b)] u w fun e u' w' => u' = u ∧ (e = .returned (.tuple #[]) ∧ w' = w.setCell b (.int .i64 0)) := by
 obtain ⟨n, hn⟩ := hn
 exact late_bad a b er n h w u hc hn hf
def BadRest (s r : ByteArray) : Prop := r.size = 0 ∨ 19 < r.size ∨ (1 ≤ r.size ∧ r.size ≤ 19 ∧ r.data.toList.head? = some 48 ∧ s.data.toList ≠ [48])
theorem isEmpty_t {r : ByteArray} (hr : r.size = 0) : r.toList.isEmpty = true := by
 rw [ByteArray.toList_eq]; have : r.data.toList = [] := List.eq_nil_of_length_eq_zero (by simpa using hr); rw [this]; rfl
theorem isEmpty_f {r : ByteArray} (hr : 1 ≤ r.size) : r.toList.isEmpty = false := by
 rw [ByteArray.toList_eq]
 have hl : r.data.toList.length = r.size := by simp
 cases h : r.data.toList with
 | nil => rw [h] at hl; simp at hl; omega
 | cons a l => rfl
theorem head_at {r : ByteArray} (hr : 0 < r.size) : r.data.toList.head? = some r[0] := by
 have hl : r.data.toList.length = r.size := by simp
 rw [List.head?_eq_getElem?, List.getElem?_eq_getElem (by omega)]
 rfl
theorem read_bad1 (s : ByteArray) (m : Bool) (r : ByteArray) (h : Signed s m r) (hbad : BadRest s r) (w : World) :
 Calls Tryz.prog 160 #[.string s] w fun e w' => e = .returned (.tuple #[.int .i64 0, .int .i64 10]) ∧ Below w.heap.size w w' := by
 have hmf : ∀ (fn : Fn) (first cap : Array Value) (w : World), (Instr.makeFunc fn first cap).run Tryz.prog w = .ok (.func fn first cap) w := fun _ _ _ _ => rfl
 have HS := Lib.hid h
 rcases hbad with hr | hr | ⟨h1, h2, h3, h4⟩
 · have he := isEmpty_t hr
   clear h hr
   go_enter_defers Tryz.func160, Tryz.ntmps160
   go_wp2_with (go_at_call 159; refine (cut_is _ _ _ HS.out _).mono ?_; rintro e w' ⟨rfl, rfl⟩)
   refine leaves_cons (f := 172) (args := #[.pointer (some ⟨w.heap.size + 1, 0, none⟩), .pointer (some ⟨w.heap.size, 0, none⟩)]) (by simp) (by simp [go_sem]) ?_
   refine (late_bad _ _ 10 0 rfl _ _ ?_ ?_ ?_).mono ?_
   · simp [go_sem]
   · simp [go_sem]
   · simp [go_sem]
   rintro e u' w'' ⟨rfl, rfl, rfl⟩
   simp [Leaves, settle, results, Tryz.results160, go_sem]
   exact ((Below.refl _ _).alloc (Nat.le_refl _) _).alloc (by simp) _
 · have he := isEmpty_f (r := r) (by omega)
   have q1 : (19 : Int) < r.size := by omega
   clear h hr
   go_enter_defers Tryz.func160, Tryz.ntmps160
   go_wp2_with (go_at_call 159; refine (cut_is _ _ _ HS.out _).mono ?_; rintro e w' ⟨rfl, rfl⟩)
   refine leaves_cons (f := 172) (args := #[.pointer (some ⟨w.heap.size + 1, 0, none⟩), .pointer (some ⟨w.heap.size, 0, none⟩)]) (by simp) (by simp [go_sem]) ?_
   refine (late_bad _ _ 10 0 rfl _ _ ?_ ?_ ?_).mono ?_
   · simp [go_sem]
   · simp [go_sem]
   · simp [go_sem]
   rintro e u' w'' ⟨rfl, rfl, rfl⟩
   simp [Leaves, settle, results, Tryz.results160, go_sem]
   exact ((Below.refl _ _).alloc (Nat.le_refl _) _).alloc (by simp) _
 · have he := isEmpty_f h1
   have q1 : (r.size : Int) ≤ 19 := by omega
   have q0 : 0 < r.size := by omega
   have q2 : ((r[0].toNat : Int) == 48) = true := by
    rw [head_at q0] at h3
    injection h3 with h3
    rw [h3]; rfl
   have q3 : (s.toList == [48]) = false := beq_eq_false_iff_ne.2 fun e => h4 (by rw [ByteArray.toList_eq] at e; exact e)
   clear h h2 h3 h4 h1
   go_enter_defers Tryz.func160, Tryz.ntmps160
   go_wp2_with (go_at_call 159; refine (cut_is _ _ _ HS.out _).mono ?_; rintro e w' ⟨rfl, rfl⟩)
   refine leaves_cons (f := 172) (args := #[.pointer (some ⟨w.heap.size + 1, 0, none⟩), .pointer (some ⟨w.heap.size, 0, none⟩)]) (by simp) (by simp [go_sem]) ?_
   refine (late_bad _ _ 10 0 rfl _ _ ?_ ?_ ?_).mono ?_
   · simp [go_sem]
   · simp [go_sem]
   · simp [go_sem]
   rintro e u' w'' ⟨rfl, rfl, rfl⟩
   simp [Leaves, settle, results, Tryz.results160, go_sem]
   exact ((Below.refl _ _).alloc (Nat.le_refl _) _).alloc (by simp) _
set_option maxHeartbeats 1000000 in
theorem read_nodig_f (s r : ByteArray) (h : Signed s false r) (h1 : 1 ≤ r.size) (h2 : r.size ≤ 19) (hz : ((r[0].toNat : Int) == 48) = false) (hd : ¬ AllDig r.data.toList) (w : World) :
 Calls Tryz.prog 160 #[.string s] w fun e w' => e = .returned (.tuple #[.int .i64 0, .int .i64 10]) ∧ Below w.heap.size w w' := by
 have hmf : ∀ (fn : Fn) (first cap : Array Value) (w : World), (Instr.makeFunc fn first cap).run Tryz.prog w = .ok (.func fn first cap) w := fun _ _ _ _ => rfl
 have HS := Lib.hid h
 have he := isEmpty_f h1
 have q1 : (r.size : Int) ≤ 19 := by omega
 have q0 : 0 < r.size := by omega
 have HY : Hid (∀ w, Calls Tryz.prog 173 #[.string r] w (NoDigits w)) := digits_no r hd
 clear hd
 clear h
 go_enter_defers Tryz.func160, Tryz.ntmps160
 go_upto_region 14 with (first | (go_at_call 159; refine (cut_is _ _ _ HS.out _).mono ?_; rintro e w' ⟨rfl, rfl⟩) | (go_at_call 173; refine (HY.out _).mono ?_; rintro e w1 ⟨x, rfl, hb1⟩; have B2 := ((Blk.new w 2 #[.int .i64 0]).alloc (.cells #[.int .i64 0] 26)).beneath hb1; have B3 := (Blk.new2 w (.cells #[.int .i64 0] 2) 26 #[.int .i64 0]).beneath hb1; have c2 := B2.cells; have c3 := B3.cells; have f2 := B2.free; have f3 := B3.free; have hB := Lib.hid (below_new2 hb1)))
 have D2 : Blk ((w1.setCell ⟨w.heap.size + 1, 0, none⟩ (.int .i64 10)).setCell ⟨w.heap.size, 0, none⟩ (.int .i64 (wrap64 x))) w.heap.size 2 #[.int .i64 (wrap64 x)] := ((B2.far (p := ⟨w.heap.size + 1, 0, none⟩) (Nat.succ_ne_self _).symm _).put 0 _)
 have D3 : Blk ((w1.setCell ⟨w.heap.size + 1, 0, none⟩ (.int .i64 10)).setCell ⟨w.heap.size, 0, none⟩ (.int .i64 (wrap64 x))) (w.heap.size + 1) 26 #[.int .i64 10] := ((B3.put 0 _).far (p := ⟨w.heap.size, 0, none⟩) (Nat.succ_ne_self _) _)
 have HW : Hid (Below w.heap.size w ((w1.setCell ⟨w.heap.size + 1, 0, none⟩ (.int .i64 10)).setCell ⟨w.heap.size, 0, none⟩ (.int .i64 (wrap64 x)))) := (belowSet0 (belowSetK hB.out))
 clear c2 c3 f2 f3 B2 B3 hB hb1
 generalize ((w1.setCell ⟨w.heap.size + 1, 0, none⟩ (.int .i64 10)).setCell ⟨w.heap.size, 0, none⟩ (.int .i64 (wrap64 x))) = W2 at D2 D3 HW ⊢
 have c2 := D2.cells
 have c3 := D3.cells
 have f2 := D2.free
 have f3 := D3.free
 go_region
 go_wp2
 refine leaves_cons (f := 172) (args := #[.pointer (some ⟨w.heap.size + 1, 0, none⟩), .pointer (some ⟨w.heap.size, 0, none⟩)]) (by simp) (by simp [go_sem]) ?_
 refine (late_bad' _ _ 10 rfl _ _ ?_ ?_ ?_).mono ?_
 · simp [go_sem, c3]
 · exact ⟨_, by simp [go_sem, c2]; rfl⟩
 · simp [go_sem, f2]
 rintro e u' w'' ⟨rfl, rfl, rfl⟩
 refine ⟨.tuple #[.int .i64 0, .int .i64 10], ?_, rfl, ?_⟩
 · clear hz he q1 hmf
   simp [results, Tryz.results160, go_sem, c2, c3]
 · refine belowSet0 ?_
   first | exact Below.drew (belowSetK (belowSet0 HW.out)) | exact belowSetK (belowSet0 HW.out)
set_option maxHeartbeats 1000000 in
theorem read_nodig_t (s r : ByteArray) (h : Signed s true r) (h1 : 1 ≤ r.size) (h2 : r.size ≤ 19) (hz : ((r[0].toNat : Int) == 48) = false) (hd : ¬ AllDig r.data.toList) (w : World) :
 Calls Tryz.prog 160 #[.string s] w fun e w' => e = .returned (.tuple #[.int .i64 0, .int .i64 10]) ∧ Below w.heap.size w w' := by
 have hmf : ∀ (fn : Fn) (first cap : Array Value) (w : World), (Instr.makeFunc fn first cap).run Tryz.prog w = .ok (.func fn first cap) w := fun _ _ _ _ => rfl
 have HS := Lib.hid h
 have he := isEmpty_f h1
 have q1 : (r.size : Int) ≤ 19 := by omega
 have q0 : 0 < r.size := by omega
 have HY : Hid (∀ w, Calls Tryz.prog 173 #[.string r] w (NoDigits w)) := digits_no r hd
 clear hd
 clear h
 go_enter_defers Tryz.func160, Tryz.ntmps160
 go_upto_region 14 with (first | (go_at_call 159; refine (cut_is _ _ _ HS.out _).mono ?_; rintro e w' ⟨rfl, rfl⟩) | (go_at_call 173; refine (HY.out _).mono ?_; rintro e w1 ⟨x, rfl, hb1⟩; have B2 := ((Blk.new w 2 #[.int .i64 0]).alloc (.cells #[.int .i64 0] 26)).beneath hb1; have B3 := (Blk.new2 w (.cells #[.int .i64 0] 2) 26 #[.int .i64 0]).beneath hb1; have c2 := B2.cells; have c3 := B3.cells; have f2 := B2.free; have f3 := B3.free; have hB := Lib.hid (below_new2 hb1)))
 have D2 : Blk (((w1.setCell ⟨w.heap.size + 1, 0, none⟩ (.int .i64 10)).setCell ⟨w.heap.size, 0, none⟩ (.int .i64 (wrap64 x))).setCell ⟨w.heap.size, 0, none⟩ (.int .i64 (wrap64 (-wrap64 x)))) w.heap.size 2 #[.int .i64 (wrap64 (-wrap64 x))] := (((B2.far (p := ⟨w.heap.size + 1, 0, none⟩) (Nat.succ_ne_self _).symm _).put 0 _).put 0 _)
 have D3 : Blk (((w1.setCell ⟨w.heap.size + 1, 0, none⟩ (.int .i64 10)).setCell ⟨w.heap.size, 0, none⟩ (.int .i64 (wrap64 x))).setCell ⟨w.heap.size, 0, none⟩ (.int .i64 (wrap64 (-wrap64 x)))) (w.heap.size + 1) 26 #[.int .i64 10] := (((B3.put 0 _).far (p := ⟨w.heap.size, 0, none⟩) (Nat.succ_ne_self _) _).far (p := ⟨w.heap.size, 0, none⟩) (Nat.succ_ne_self _) _)
 have HW : Hid (Below w.heap.size w (((w1.setCell ⟨w.heap.size + 1, 0, none⟩ (.int .i64 10)).setCell ⟨w.heap.size, 0, none⟩ (.int .i64 (wrap64 x))).setCell ⟨w.heap.size, 0, none⟩ (.int .i64 (wrap64 (-wrap64 x))))) := (belowSet0 (belowSet0 (belowSetK hB.out)))
 clear c2 c3 f2 f3 B2 B3 hB hb1
 generalize (((w1.setCell ⟨w.heap.size + 1, 0, none⟩ (.int .i64 10)).setCell ⟨w.heap.size, 0, none⟩ (.int .i64 (wrap64 x))).setCell ⟨w.heap.size, 0, none⟩ (.int .i64 (wrap64 (-wrap64 x)))) = W2 at D2 D3 HW ⊢
 have c2 := D2.cells
 have c3 := D3.cells
 have f2 := D2.free
 have f3 := D3.free
 go_region
 go_wp2
 refine leaves_cons (f := 172) (args := #[.pointer (some ⟨w.heap.size + 1, 0, none⟩), .pointer (some ⟨w.heap.size, 0, none⟩)]) (by simp) (by simp [go_sem]) ?_
 refine (late_bad' _ _ 10 rfl _ _ ?_ ?_ ?_).mono ?_
 · simp [go_sem, c3]
 · exact ⟨_, by simp [go_sem, c2]; rfl⟩
 · simp [go_sem, f2]
 rintro e u' w'' ⟨rfl, rfl, rfl⟩
 refine ⟨.tuple #[.int .i64 0, .int .i64 10], ?_, rfl, ?_⟩
 · clear hz he q1 hmf
   simp [results, Tryz.results160, go_sem, c2, c3]
 · refine belowSet0 ?_
   first | exact Below.drew (belowSetK (belowSet0 HW.out)) | exact belowSetK (belowSet0 HW.out)
set_option maxHeartbeats 1000000 in
theorem read_pos (s r : ByteArray) (h : Signed s false r) (h1 : 1 ≤ r.size) (h2 : r.size ≤ 19) (hz : ((r[0].toNat : Int) == 48) = false) (hd : AllDig r.data.toList) (hx : valD r.data.toList ≤ 9223372036854775807) (w : World) :
 Calls Tryz.prog 160 #[.string s] w fun e w' => e = .returned (.tuple #[.int .i64 (valD r.data.toList : Nat), .int .i64 0]) ∧ Below w.heap.size w w' := by
 have hmf : ∀ (fn : Fn) (first cap : Array Value) (w : World), (Instr.makeFunc fn first cap).run Tryz.prog w = .ok (.func fn first cap) w := fun _ _ _ _ => rfl
 have HS := Lib.hid h
 have he := isEmpty_f h1
 have q1 : (r.size : Int) ≤ 19 := by omega
 have q0 : 0 < r.size := by omega
 have HY := Lib.hid (digits_yes r h2 hd)
 clear hd
 generalize valD r.data.toList = n at *
 have q2 : (n : Int) ≤ 9223372036854775807 := by omega
 clear hx
 clear h
 go_enter_defers Tryz.func160, Tryz.ntmps160
 go_upto_region 14 with (first | (go_at_call 159; refine (cut_is _ _ _ HS.out _).mono ?_; rintro e w' ⟨rfl, rfl⟩) | (go_at_call 173; refine (HY.out _).mono ?_; rintro e w1 ⟨rfl, hb1⟩; have B2 := ((Blk.new w 2 #[.int .i64 0]).alloc (.cells #[.int .i64 0] 26)).beneath hb1; have B3 := (Blk.new2 w (.cells #[.int .i64 0] 2) 26 #[.int .i64 0]).beneath hb1; have c2 := B2.cells; have c3 := B3.cells; have f2 := B2.free; have f3 := B3.free; have hB := Lib.hid (below_new2 hb1)))
 have D2 : Blk (w1.setCell ⟨w.heap.size, 0, none⟩ (.int .i64 (n : Nat))) w.heap.size 2 #[.int .i64 (n : Nat)] := (B2.put 0 _)
 have D3 : Blk (w1.setCell ⟨w.heap.size, 0, none⟩ (.int .i64 (n : Nat))) (w.heap.size + 1) 26 #[.int .i64 0] := (B3.far (p := ⟨w.heap.size, 0, none⟩) (Nat.succ_ne_self _) _)
 have HW : Hid (Below w.heap.size w (w1.setCell ⟨w.heap.size, 0, none⟩ (.int .i64 (n : Nat)))) := (belowSet0 hB.out)
 clear c2 c3 f2 f3 B2 B3 hB hb1
 generalize (w1.setCell ⟨w.heap.size, 0, none⟩ (.int .i64 (n : Nat))) = W2 at D2 D3 HW ⊢
 have c2 := D2.cells
 have c3 := D3.cells
 have f2 := D2.free
 have f3 := D3.free
 go_region
 go_wp2
 refine leaves_cons (f := 172) (args := #[.pointer (some ⟨w.heap.size + 1, 0, none⟩), .pointer (some ⟨w.heap.size, 0, none⟩)]) (by simp) (by simp [go_sem]) ?_
 refine (late_well _ _ _ _ ?_).mono ?_
 · simp [go_sem, c3]
 rintro e u' w'' ⟨rfl, rfl, rfl⟩
 refine ⟨.tuple #[.int .i64 n, .int .i64 0], ?_, rfl, ?_⟩
 · clear hz he q1 hmf
   simp [results, Tryz.results160, go_sem, c2, c3]
 · first | exact Below.drew (belowSetK (belowSet0 HW.out)) | exact belowSetK (belowSet0 HW.out)
end Go.Proofs.YtbffebcjimhapaaGreatDoor
