/-
  The walk of num.Read, where a number is great, or below 0. And what stands on it: NumRead4, NumRead5, NumTold, NumDec, RdPure, LexProg1.
-/
import Derived.Test.YtbffebcjimhapaaGreatDoorMg6
import Derived.Test.YtbffebcjimhapaaGreatDoorMg8
import Derived.Test.YtbffebcjimhapaaGreatDoorMg10
import Derived.Deep.CutRange
namespace Go.Proofs.YtbffebcjimhapaaGreatDoor
set_option linter.unusedVariables false
set_option linter.unusedSimpArgs false
open Go.ChangeShapes Go.WideShapes Go.ChangeAt Go.RowKit Go.Lib
def YesDigits (n : Int) (w : World) (e : Ending) (w' : World) : Prop := ∃ x : Int, e = .returned (.tuple #[.int .u64 x, .bool true]) ∧ Below w.heap.size w w' ∧ Hid (x = n)
theorem digits_named (s : ByteArray) (hs : s.size ≤ 19) (hd : AllDig s.data.toList) (w : World) :
 Calls Tryz.prog 173 #[.string s] w (YesDigits (valD s.data.toList : Nat) w) :=
 (digits_yes s hs hd w).mono fun _ _ ⟨he, hb⟩ => ⟨_, he, hb, Lib.hid rfl⟩
set_option maxHeartbeats 1000000 in
theorem read_big_pos (s r : ByteArray) (h : Signed s false r) (h1 : 1 ≤ r.size) (h2 : r.size ≤ 19) (hz : ((r[0].toNat : Int) == 48) = false) (hd : AllDig r.data.toList) (hx : 9223372036854775807 < valD r.data.toList) (w : World) :
 Calls Tryz.prog 160 #[.string s] w fun e w' => e = .returned (.tuple #[.int .i64 0, .int .i64 10]) ∧ Below w.heap.size w w' := by
 have hmf : ∀ (fn : Fn) (first cap : Array Value) (w : World), (Instr.makeFunc fn first cap).run Tryz.prog w = .ok (.func fn first cap) w := fun _ _ _ _ => rfl
 have HS := Lib.hid h
 have he := isEmpty_f h1
 have q1 : (r.size : Int) ≤ 19 := by omega
 have q0 : 0 < r.size := by omega
 have HY : Hid (∀ w, Calls Tryz.prog 173 #[.string r] w (YesDigits (valD r.data.toList : Nat) w)) := digits_named r h2 hd
 have HQ : Hid (∀ x : Int, x = (valD r.data.toList : Nat) → (9223372036854775807 : Int) < x) := by intro x hx'; omega
 clear hd hx
 generalize (valD r.data.toList : Int) = n at HY HQ ⊢
 clear h
 go_enter_defers Tryz.func160, Tryz.ntmps160
 go_upto_region 9 with (first | (go_at_call 159; refine (cut_is _ _ _ HS.out _).mono ?_; rintro e w' ⟨rfl, rfl⟩) | (go_at_call 173; refine (HY.out _).mono ?_; rintro e w1 ⟨x, rfl, hb1, hx⟩; have B2 := ((Blk.new w 2 #[.int .i64 0]).alloc (.cells #[.int .i64 0] 26)).beneath hb1; have B3 := (Blk.new2 w (.cells #[.int .i64 0] 2) 26 #[.int .i64 0]).beneath hb1; have c2 := B2.cells; have c3 := B3.cells; have f2 := B2.free; have f3 := B3.free; have hB := Lib.hid (below_new2 hb1)))
 go_cut [45] from 39 to 45 (fun s45 wx => s45 = .bool true ∧ w1 = wx)
 case first =>
  have q2 := HQ.out x hx.out
  go_wp2
  go_meet
  case rel => exact ⟨by first | rfl | exact congrArg Value.bool (decide_eq_false (by omega)), rfl⟩
 obtain ⟨rfl, rfl⟩ := hcut
 clear HQ HY
 go_upto_region 14 with (fail)
 have D2 : Blk ((w1.setCell ⟨w.heap.size + 1, 0, none⟩ (.int .i64 10)).setCell ⟨w.heap.size, 0, none⟩ (.int .i64 (wrap64 x))) w.heap.size 2 #[.int .i64 (wrap64 x)] := ((B2.far (p := ⟨w.heap.size + 1, 0, none⟩) (Nat.succ_ne_self _).symm _).put 0 _)
 have D3 : Blk ((w1.setCell ⟨w.heap.size + 1, 0, none⟩ (.int .i64 10)).setCell ⟨w.heap.size, 0, none⟩ (.int .i64 (wrap64 x))) (w.heap.size + 1) 26 #[.int .i64 10] := ((B3.put 0 _).far (p := ⟨w.heap.size, 0, none⟩) (Nat.succ_ne_self _) _)
 have HW : Hid (Below w.heap.size w ((w1.setCell ⟨w.heap.size + 1, 0, none⟩ (.int .i64 10)).setCell ⟨w.heap.size, 0, none⟩ (.int .i64 (wrap64 x)))) := (belowSet0 (belowSetK hB.out))
 clear c2 c3 f2 f3 B2 B3 hB hb1
 generalize ((w1.setCell ⟨w.heap.size + 1, 0, none⟩ (.int .i64 10)).setCell ⟨w.heap.size, 0, none⟩ (.int .i64 (wrap64 x))) = W2 at D2 D3 HW ⊢
 have c2 := D2.cells
 have c3 := D3.cells
 have f2 := D2.free
 have f3 := D3.free
 go_region
 go_wp2
 refine leaves_cons (f := 172) (args := #[.pointer (some ⟨w.heap.size + 1, 0, none⟩), .pointer (some ⟨w.heap.size, 0, none⟩)]) (by simp) (by simp [go_sem]) ?_
 refine (late_bad' _ _ 10 rfl _ _ ?_ ?_ ?_).mono ?_
 · simp [go_sem, c3]
 · exact ⟨_, by simp [go_sem, c2]; rfl⟩
 · simp [go_sem, f2]
 rintro e u' w'' ⟨rfl, rfl, rfl⟩
 refine ⟨.tuple #[.int .i64 0, .int .i64 10], ?_, rfl, ?_⟩
 · clear hz he q1 hmf
   simp [results, Tryz.results160, go_sem, c2, c3]
 · refine belowSet0 ?_
   first | exact Below.drew (belowSetK (belowSet0 HW.out)) | exact belowSetK (belowSet0 HW.out)
set_option maxHeartbeats 1000000 in
theorem read_big_neg (s r : ByteArray) (h : Signed s true r) (h1 : 1 ≤ r.size) (h2 : r.size ≤ 19) (hz : ((r[0].toNat : Int) == 48) = false) (hd : AllDig r.data.toList) (hx : 9223372036854775808 < valD r.data.toList) (w : World) :
 Calls Tryz.prog 160 #[.string s] w fun e w' => e = .returned (.tuple #[.int .i64 0, .int .i64 10]) ∧ Below w.heap.size w w' := by
 have hmf : ∀ (fn : Fn) (first cap : Array Value) (w : World), (Instr.makeFunc fn first cap).run Tryz.prog w = .ok (.func fn first cap) w := fun _ _ _ _ => rfl
 have HS := Lib.hid h
 have he := isEmpty_f h1
 have q1 : (r.size : Int) ≤ 19 := by omega
 have q0 : 0 < r.size := by omega
 have HY : Hid (∀ w, Calls Tryz.prog 173 #[.string r] w (YesDigits (valD r.data.toList : Nat) w)) := digits_named r h2 hd
 have HQ : Hid (∀ x : Int, x = (valD r.data.toList : Nat) → (9223372036854775808 : Int) < x) := by intro x hx'; omega
 clear hd hx
 generalize (valD r.data.toList : Int) = n at HY HQ ⊢
 clear h
 go_enter_defers Tryz.func160, Tryz.ntmps160
 go_upto_region 9 with (first | (go_at_call 159; refine (cut_is _ _ _ HS.out _).mono ?_; rintro e w' ⟨rfl, rfl⟩) | (go_at_call 173; refine (HY.out _).mono ?_; rintro e w1 ⟨x, rfl, hb1, hx⟩; have B2 := ((Blk.new w 2 #[.int .i64 0]).alloc (.cells #[.int .i64 0] 26)).beneath hb1; have B3 := (Blk.new2 w (.cells #[.int .i64 0] 2) 26 #[.int .i64 0]).beneath hb1; have c2 := B2.cells; have c3 := B3.cells; have f2 := B2.free; have f3 := B3.free; have hB := Lib.hid (below_new2 hb1)))
 go_cut [45] from 39 to 45 (fun s45 wx => s45 = .bool true ∧ w1 = wx)
 case first =>
  have q2 := HQ.out x hx.out
  go_wp2
  go_meet
  case rel => exact ⟨by first | rfl | exact congrArg Value.bool (decide_eq_false (by omega)), rfl⟩
 obtain ⟨rfl, rfl⟩ := hcut
 clear HQ HY
 go_upto_region 14 with (fail)
 have D2 : Blk (((w1.setCell ⟨w.heap.size + 1, 0, none⟩ (.int .i64 10)).setCell ⟨w.heap.size, 0, none⟩ (.int .i64 (wrap64 x))).setCell ⟨w.heap.size, 0, none⟩ (.int .i64 (wrap64 (-wrap64 x)))) w.heap.size 2 #[.int .i64 (wrap64 (-wrap64 x))] := (((B2.far (p := ⟨w.heap.size + 1, 0, none⟩) (Nat.succ_ne_self _).symm _).put 0 _).put 0 _)
 have D3 : Blk (((w1.setCell ⟨w.heap.size + 1, 0, none⟩ (.int .i64 10)).setCell ⟨w.heap.size, 0, none⟩ (.int .i64 (wrap64 x))).setCell ⟨w.heap.size, 0, none⟩ (.int .i64 (wrap64 (-wrap64 x)))) (w.heap.size + 1) 26 #[.int .i64 10] := (((B3.put 0 _).far (p := ⟨w.heap.size, 0, none⟩) (Nat.succ_ne_self _) _).far (p := ⟨w.heap.size, 0, none⟩) (Nat.succ_ne_self _) _)
 have HW : Hid (Below w.heap.size w (((w1.setCell ⟨w.heap.size + 1, 0, none⟩ (.int .i64 10)).setCell ⟨w.heap.size, 0, none⟩ (.int .i64 (wrap64 x))).setCell ⟨w.heap.size, 0, none⟩ (.int .i64 (wrap64 (-wrap64 x))))) := (belowSet0 (belowSet0 (belowSetK hB.out)))
 clear c2 c3 f2 f3 B2 B3 hB hb1
 generalize (((w1.setCell ⟨w.heap.size + 1, 0, none⟩ (.int .i64 10)).setCell ⟨w.heap.size, 0, none⟩ (.int .i64 (wrap64 x))).setCell ⟨w.heap.size, 0, none⟩ (.int .i64 (wrap64 (-wrap64 x)))) = W2 at D2 D3 HW ⊢
 have c2 := D2.cells
 have c3 := D3.cells
 have f2 := D2.free
 have f3 := D3.free
 go_region
 go_wp2
 refine leaves_cons (f := 172) (args := #[.pointer (some ⟨w.heap.size + 1, 0, none⟩), .pointer (some ⟨w.heap.size, 0, none⟩)]) (by simp) (by simp [go_sem]) ?_
 refine (late_bad' _ _ 10 rfl _ _ ?_ ?_ ?_).mono ?_
 · simp [go_sem, c3]
 · exact ⟨_, by simp [go_sem, c2]; rfl⟩
 · simp [go_sem, f2]
 rintro e u' w'' ⟨rfl, rfl, rfl⟩
 refine ⟨.tuple #[.int .i64 0, .int .i64 10], ?_, rfl, ?_⟩
 · clear hz he q1 hmf
   simp [results, Tryz.results160, go_sem, c2, c3]
 · refine belowSet0 ?_
   first | exact Below.drew (belowSetK (belowSet0 HW.out)) | exact belowSetK (belowSet0 HW.out)
set_option maxHeartbeats 1000000 in
theorem read_neg (s r : ByteArray) (h : Signed s true r) (h1 : 1 ≤ r.size) (h2 : r.size ≤ 19) (hz : ((r[0].toNat : Int) == 48) = false) (hd : AllDig r.data.toList) (hx : valD r.data.toList ≤ 9223372036854775808) (w : World) :
 Calls Tryz.prog 160 #[.string s] w fun e w' => e = .returned (.tuple #[.int .i64 (wrap64 (-wrap64 (valD r.data.toList : Nat))), .int .i64 0]) ∧ Below w.heap.size w w' := by
 have hmf : ∀ (fn : Fn) (first cap : Array Value) (w : World), (Instr.makeFunc fn first cap).run Tryz.prog w = .ok (.func fn first cap) w := fun _ _ _ _ => rfl
 have HS := Lib.hid h
 have he := isEmpty_f h1
 have q1 : (r.size : Int) ≤ 19 := by omega
 have q0 : 0 < r.size := by omega
 have HY : Hid (∀ w, Calls Tryz.prog 173 #[.string r] w (YesDigits (valD r.data.toList : Nat) w)) := digits_named r h2 hd
 have HQ : Hid (∀ x : Int, x = (valD r.data.toList : Nat) → x ≤ (9223372036854775808 : Int)) := by intro x hx'; omega
 clear hd hx
 generalize (valD r.data.toList : Int) = n at HY HQ ⊢
 clear h
 go_enter_defers Tryz.func160, Tryz.ntmps160
 go_upto_region 9 with (first | (go_at_call 159; refine (cut_is _ _ _ HS.out _).mono ?_; rintro e w' ⟨rfl, rfl⟩) | (go_at_call 173; refine (HY.out _).mono ?_; rintro e w1 ⟨x, rfl, hb1, hx⟩; have B2 := ((Blk.new w 2 #[.int .i64 0]).alloc (.cells #[.int .i64 0] 26)).beneath hb1; have B3 := (Blk.new2 w (.cells #[.int .i64 0] 2) 26 #[.int .i64 0]).beneath hb1; have c2 := B2.cells; have c3 := B3.cells; have f2 := B2.free; have f3 := B3.free; have hB := Lib.hid (below_new2 hb1)))
 go_cut [45] from 39 to 45 (fun s45 wx => s45 = .bool false ∧ w1 = wx)
 case first =>
  have q2 := HQ.out x hx.out
  go_wp2
  go_meet
  case rel => exact ⟨by first | rfl | exact congrArg Value.bool (decide_eq_false (by omega)), rfl⟩
 obtain ⟨rfl, rfl⟩ := hcut
 clear HQ HY
 go_upto_region 14 with (fail)
 have D2 : Blk ((w1.setCell ⟨w.heap.size, 0, none⟩ (.int .i64 (wrap64 x))).setCell ⟨w.heap.size, 0, none⟩ (.int .i64 (wrap64 (-wrap64 x)))) w.heap.size 2 #[.int .i64 (wrap64 (-wrap64 x))] := ((B2.put 0 _).put 0 _)
 have D3 : Blk ((w1.setCell ⟨w.heap.size, 0, none⟩ (.int .i64 (wrap64 x))).setCell ⟨w.heap.size, 0, none⟩ (.int .i64 (wrap64 (-wrap64 x)))) (w.heap.size + 1) 26 #[.int .i64 0] := ((B3.far (p := ⟨w.heap.size, 0, none⟩) (Nat.succ_ne_self _) _).far (p := ⟨w.heap.size, 0, none⟩) (Nat.succ_ne_self _) _)
 have HW : Hid (Below w.heap.size w ((w1.setCell ⟨w.heap.size, 0, none⟩ (.int .i64 (wrap64 x))).setCell ⟨w.heap.size, 0, none⟩ (.int .i64 (wrap64 (-wrap64 x))))) := (belowSet0 (belowSet0 hB.out))
 clear c2 c3 f2 f3 B2 B3 hB hb1
 generalize ((w1.setCell ⟨w.heap.size, 0, none⟩ (.int .i64 (wrap64 x))).setCell ⟨w.heap.size, 0, none⟩ (.int .i64 (wrap64 (-wrap64 x)))) = W2 at D2 D3 HW ⊢
 have c2 := D2.cells
 have c3 := D3.cells
 have f2 := D2.free
 have f3 := D3.free
 go_region
 go_wp2
 refine leaves_cons (f := 172) (args := #[.pointer (some ⟨w.heap.size + 1, 0, none⟩), .pointer (some ⟨w.heap.size, 0, none⟩)]) (by simp) (by simp [go_sem]) ?_
 refine (late_well _ _ _ _ ?_).mono ?_
 · simp [go_sem, c3]
 rintro e u' w'' ⟨rfl, rfl, rfl⟩
 refine ⟨.tuple #[.int .i64 (wrap64 (-wrap64 x)), .int .i64 0], ?_, by rw [hx.out], ?_⟩
 · clear hz he q1 hmf
   simp [results, Tryz.results160, go_sem, c2, c3]
 · first | exact Below.drew (belowSetK (belowSet0 HW.out)) | exact belowSetK (belowSet0 HW.out)
theorem signed_list {s r : ByteArray} {m : Bool} (h : Signed s m r) : (m = true ∧ s.data.toList = 45 :: r.data.toList) ∨ (m = false ∧ s.data.toList.head? ≠ some 45 ∧ r.data.toList = s.data.toList) := by
 rcases h with ⟨rfl, h1, h2, rfl⟩ | ⟨rfl, h2, rfl⟩
 · refine .inl ⟨rfl, ?_⟩
   rw [extract_to_end]
   generalize s.data.toList = l at *
   cases l with
   | nil => cases h2
   | cons a l => simp at h2; subst h2; rfl
 · exact .inr ⟨rfl, h2, rfl⟩
theorem signed_num {s r : ByteArray} {m : Bool} (h : Signed s m r) {k : Int} (hk : NumOf s.data.toList k) :
 Canon r.data.toList ∧ ((m = false ∧ valD r.data.toList ≤ 9223372036854775807) ∨ (m = true ∧ r.data.toList ≠ [48] ∧ valD r.data.toList ≤ 9223372036854775808)) := by
 rcases signed_list h with ⟨rfl, e⟩ | ⟨rfl, h2, e⟩
 · rcases numOf_form hk with ⟨hc, _, _⟩ | ⟨r', e', hc, h0, _, hx⟩
   · have := hc.1 45 (by rw [e]; simp)
     unfold Dig at this
     have h45 : (45 : UInt8).toNat = 45 := rfl
     omega
   · rw [e] at e'
     injection e' with _ e'
     rw [e']
     exact ⟨hc, .inr ⟨rfl, h0, hx⟩⟩
 · rcases numOf_form hk with ⟨hc, _, hx⟩ | ⟨r', e', hc, h0, _, hx⟩
   · rw [e]; exact ⟨hc, .inl ⟨rfl, hx⟩⟩
   · rw [e'] at h2; exact absurd rfl h2
theorem size_len (r : ByteArray) : r.data.toList.length = r.size := by simp
theorem bad_none {s r : ByteArray} {m : Bool} (h : Signed s m r) (hb : BadRest s r) (k : Int) : ¬ NumOf s.data.toList k := fun hk => by
 obtain ⟨hc, hm⟩ := signed_num h hk
 have hl := size_len r
 have hx : valD r.data.toList ≤ 9223372036854775808 := by rcases hm with ⟨_, hx⟩ | ⟨_, _, hx⟩ <;> omega
 rcases hb with h0 | h0 | ⟨h1, h2, h3, h4⟩
 · exact hc.2.1 (List.eq_nil_of_length_eq_zero (by omega))
 · have := canon_len hc hx; omega
 · rcases hc.2.2 with h5 | h5
   · rcases signed_list h with ⟨rfl, e⟩ | ⟨rfl, _, e⟩
     · rcases hm with ⟨h6, _⟩ | ⟨_, h6, _⟩
       · cases h6
       · exact h6 h5
     · exact h4 (e.symm.trans h5)
   · exact h5 h3
theorem neg_wrap {n : Nat} (h : n ≤ 9223372036854775808) : wrap64 (-wrap64 (n : Int)) = -(n : Int) := by unfold wrap64; omega
set_option maxHeartbeats 1000000 in
theorem read_zero (s : ByteArray) (h : Signed s false s) (h1 : s.data.toList = [48]) (w : World) :
 Calls Tryz.prog 160 #[.string s] w fun e w' => e = .returned (.tuple #[.int .i64 0, .int .i64 0]) ∧ Below w.heap.size w w' := by
 have hmf : ∀ (fn : Fn) (first cap : Array Value) (w : World), (Instr.makeFunc fn first cap).run Tryz.prog w = .ok (.func fn first cap) w := fun _ _ _ _ => rfl
 have HS := Lib.hid h
 have hl := size_len s
 rw [h1] at hl
 have hs : s.size = 1 := hl.symm
 have he := isEmpty_f (r := s) (by omega)
 have q1 : (s.size : Int) ≤ 19 := by omega
 have q0 : 0 < s.size := by omega
 have q2 : ((s[0].toNat : Int) == 48) = true := by
  have h3 := head_at q0
  rw [h1] at h3
  injection h3 with h3
  rw [← h3]; rfl
 have q3 : (s.toList == [48]) = true := by rw [ByteArray.toList_eq, h1]; rfl
 have HY : Hid (∀ w, Calls Tryz.prog 173 #[.string s] w fun e w' => e = .returned (.tuple #[.int .u64 0, .bool true]) ∧ Below w.heap.size w w') := by
  intro w
  have := digits_yes s (by omega) (by rw [h1]; intro c hc; simp at hc; subst hc; exact ⟨by decide, by decide⟩) w
  rw [h1] at this
  exact this
 clear h h1 hl hs
 go_enter_defers Tryz.func160, Tryz.ntmps160
 go_upto_region 14 with (first | (go_at_call 159; refine (cut_is _ _ _ HS.out _).mono ?_; rintro e w' ⟨rfl, rfl⟩) | (go_at_call 173; refine (HY.out _).mono ?_; rintro e w1 ⟨rfl, hb1⟩; have B2 := ((Blk.new w 2 #[.int .i64 0]).alloc (.cells #[.int .i64 0] 26)).beneath hb1; have B3 := (Blk.new2 w (.cells #[.int .i64 0] 2) 26 #[.int .i64 0]).beneath hb1; have c2 := B2.cells; have c3 := B3.cells; have f2 := B2.free; have f3 := B3.free; have hB := Lib.hid (below_new2 hb1)))
 have D2 : Blk (w1.setCell ⟨w.heap.size, 0, none⟩ (.int .i64 0)) w.heap.size 2 #[.int .i64 0] := B2.put 0 _
 have D3 : Blk (w1.setCell ⟨w.heap.size, 0, none⟩ (.int .i64 0)) (w.heap.size + 1) 26 #[.int .i64 0] := B3.far (p := ⟨w.heap.size, 0, none⟩) (Nat.succ_ne_self _) _
 have HW : Hid (Below w.heap.size w (w1.setCell ⟨w.heap.size, 0, none⟩ (.int .i64 0))) := belowSet0 hB.out
 clear c2 c3 f2 f3 B2 B3 hB hb1
 generalize (w1.setCell ⟨w.heap.size, 0, none⟩ (.int .i64 0)) = W2 at D2 D3 HW ⊢
 have c2 := D2.cells
 have c3 := D3.cells
 have f2 := D2.free
 have f3 := D3.free
 go_region
 go_wp2
 refine leaves_cons (f := 172) (args := #[.pointer (some ⟨w.heap.size + 1, 0, none⟩), .pointer (some ⟨w.heap.size, 0, none⟩)]) (by simp) (by simp [go_sem]) ?_
 refine (late_well _ _ _ _ ?_).mono ?_
 · simp [go_sem, c3]
 rintro e u' w'' ⟨rfl, rfl, rfl⟩
 refine ⟨.tuple #[.int .i64 0, .int .i64 0], ?_, rfl, ?_⟩
 · clear q2 q3 he q1 hmf
   simp [results, Tryz.results160, go_sem, c2, c3]
 · first | exact Below.drew (belowSetK (belowSet0 HW.out)) | exact belowSetK (belowSet0 HW.out)
theorem itoa_zero : itoa 0 = [48] := by rw [itoa_pos (by omega), dec_small (by decide)]; rfl
theorem read_is (s : ByteArray) (n er : Int) (h : Told s.data.toList n er) (w : World) :
 Calls Tryz.prog 160 #[.string s] w fun e w' => e = .returned (.tuple #[.int .i64 n, .int .i64 er]) ∧ Below w.heap.size w w' := by
 obtain ⟨m, r, hs⟩ := signed_ex s
 have none_of : (∀ k, ¬ NumOf s.data.toList k) → n = 0 ∧ er = 10 := fun hn => h.unique (.inr ⟨rfl, rfl, hn⟩)
 by_cases hb : BadRest s r
 · obtain ⟨rfl, rfl⟩ := none_of (bad_none hs hb)
   exact read_bad1 s m r hs hb w
 by_cases hz : s.data.toList = [48]
 · rcases signed_list hs with ⟨rfl, e⟩ | ⟨rfl, h2, e⟩
   · rw [hz] at e; injection e with e; cases e
   · rcases hs with ⟨h0, _⟩ | ⟨_, _, rfl⟩
     · cases h0
     · obtain ⟨rfl, rfl⟩ := h.unique (.inl ⟨rfl, ⟨⟨by omega, by omega⟩, itoa_zero.trans hz.symm⟩⟩ : Told r.data.toList 0 0)
       exact read_zero r (.inr ⟨rfl, h2, rfl⟩) hz w
 have hl := size_len r
 have h1 : 1 ≤ r.size := by
  rcases Nat.eq_zero_or_pos r.size with h0 | h0
  · exact absurd (.inl h0) hb
  · exact h0
 have h2 : r.size ≤ 19 := by
  rcases Nat.lt_or_ge 19 r.size with h0 | h0
  · exact absurd (.inr (.inl h0)) hb
  · exact h0
 have hh : r.data.toList.head? ≠ some 48 := fun e => hb (.inr (.inr ⟨h1, h2, e, hz⟩))
 have hz' : ((r[0].toNat : Int) == 48) = false := by
  rw [beq_eq_false_iff_ne]
  intro e
  refine hh ?_
  rw [head_at h1]
  congr 1
  apply UInt8.toNat_inj.1
  show r[0].toNat = 48
  omega
 by_cases hd : AllDig r.data.toList
 · have hc : Canon r.data.toList := ⟨hd, fun e => by rw [e] at hl; simp at hl; omega, .inr hh⟩
   cases m with
   | false =>
     have e : r.data.toList = s.data.toList := by
      rcases signed_list hs with ⟨h0, _⟩ | ⟨_, _, e⟩
      · cases h0
      · exact e
     by_cases hx : valD r.data.toList ≤ 9223372036854775807
     · obtain ⟨rfl, rfl⟩ := h.unique (.inl ⟨rfl, (e ▸ numOf_pos hc hx : NumOf s.data.toList (valD r.data.toList : Nat))⟩)
       exact read_pos s r hs h1 h2 hz' hd hx w
     · obtain ⟨rfl, rfl⟩ := none_of fun k hk => by
        rcases (signed_num hs hk).2 with ⟨_, h5⟩ | ⟨h5, _⟩
        · exact hx h5
        · cases h5
       exact read_big_pos s r hs h1 h2 hz' hd (by omega) w
   | true =>
     have e : s.data.toList = 45 :: r.data.toList := by
      rcases signed_list hs with ⟨_, e⟩ | ⟨h0, _⟩
      · exact e
      · cases h0
     by_cases hx : valD r.data.toList ≤ 9223372036854775808
     · obtain ⟨rfl, rfl⟩ := h.unique (.inl ⟨rfl, e ▸ numOf_neg hc (fun e => hh (by rw [e]; rfl)) hx⟩)
       have := read_neg s r hs h1 h2 hz' hd hx w
       rw [neg_wrap hx] at this
       exact this
     · obtain ⟨rfl, rfl⟩ := none_of fun k hk => by
        rcases (signed_num hs hk).2 with ⟨h5, _⟩ | ⟨_, _, h5⟩
        · cases h5
        · exact hx h5
       exact read_big_neg s r hs h1 h2 hz' hd (by omega) w
 · obtain ⟨rfl, rfl⟩ := none_of fun k hk => hd (signed_num hs hk).1.1
   cases m
   · exact read_nodig_f s r hs h1 h2 hz' hd w
   · exact read_nodig_t s r hs h1 h2 hz' hd w
end Go.Proofs.YtbffebcjimhapaaGreatDoor
namespace Go.Proofs.YtbffebcjimhapaaGreatDoor
set_option linter.unusedVariables false
set_option linter.unusedSimpArgs false
open Go.RowKit Go.Lib
def canonB (l : List UInt8) : Bool := l.all (fun c => decide (48 ≤ c.toNat) && decide (c.toNat ≤ 57)) && !l.isEmpty && (l == [48] || l.head? != some 48)
theorem canonB_iff {l : List UInt8} : canonB l = true ↔ Canon l := by
 unfold canonB Canon AllDig Dig
 simp only [Bool.and_eq_true, List.all_eq_true, decide_eq_true_eq, Bool.or_eq_true, beq_iff_eq, bne_iff_ne, Bool.not_eq_true', List.isEmpty_eq_false_iff, ne_eq]
 constructor
 · rintro ⟨⟨h1, h2⟩, h3⟩; exact ⟨h1, h2, h3⟩
 · rintro ⟨h1, h2, h3⟩; exact ⟨⟨h1, h2⟩, h3⟩
def posB (l : List UInt8) (n : Int) : Bool := canonB l && decide ((valD l : Int) = n) && decide (valD l ≤ 9223372036854775807)
def negB (l : List UInt8) (n : Int) : Bool := match l with
 | c :: r => c == 45 && canonB r && r != [48] && decide (-(valD r : Int) = n) && decide (valD r ≤ 9223372036854775808)
 | [] => false
def badB (l : List UInt8) : Bool := !(canonB l && decide (valD l ≤ 9223372036854775807)) && match l with
 | c :: r => !(c == 45 && canonB r && r != [48] && decide (valD r ≤ 9223372036854775808))
 | [] => true
theorem num_bad {l : List UInt8} (h : badB l = true) (m : Int) : ¬ NumOf l m := fun hn => by
 unfold badB at h
 rcases numOf_form hn with ⟨h1, _, h2⟩ | ⟨r, rfl, h1, h2, _, h3⟩
 · rw [canonB_iff.2 h1] at h
   simp [h2] at h
 · simp [canonB_iff.2 h1, h2, h3] at h
theorem told_yes {l : List UInt8} {n : Int} (h : NumOf l n) : Told l n 0 := .inl ⟨rfl, h⟩
theorem told_no {l : List UInt8} (h : ∀ m, ¬ NumOf l m) : Told l 0 10 := .inr ⟨rfl, rfl, h⟩
end Go.Proofs.YtbffebcjimhapaaGreatDoor
namespace Go.Proofs.YtbffebcjimhapaaGreatDoor
set_option linter.unusedVariables false
set_option linter.unusedSimpArgs false
open Go.RowKit
def bType : Bs := [116, 121, 112, 101]
def bInt : Bs := [105, 110, 116]
def bPtr : Bs := [112, 116, 114]
def bFn : Bs := [102, 110]
def bStruct : Bs := [115, 116, 114, 117, 99, 116]
def bArray : Bs := [97, 114, 114, 97, 121]
def bFunc : Bs := [102, 117, 110, 99]
def bBlock : Bs := [98, 108, 111, 99, 107]
def bJump : Bs := [106, 117, 109, 112]
def bBranch : Bs := [98, 114, 97, 110, 99, 104]
def bReturn : Bs := [114, 101, 116, 117, 114, 110]
def bEq : Bs := [61]
def opWords : List Bs := [[], [105, 110, 116], [110, 117, 108, 108], [102, 110], [97, 100, 100], [115, 117, 98], [109, 117, 108], [100, 105, 118], [108, 101, 115, 115], [101, 113], [115, 97, 109, 101], [110, 101, 119], [108, 111, 99, 97, 108], [102, 114, 101, 101], [102, 105, 101, 108, 100], [101, 108, 101, 109], [108, 111, 97, 100], [115, 116, 111, 114, 101], [99, 97, 108, 108], [105, 99, 97, 108, 108], [114, 101, 97, 100], [112, 114, 105, 110, 116], [112, 104, 105]]
def opP (w : Bs) : Nat := if opWords.idxOf w < 23 then opWords.idxOf w else 0
def numP (l : Bs) : Option Int :=
 if canonB l && decide (valD l ≤ 9223372036854775807) then some (valD l : Int)
 else match l with
  | c :: r => if c == 45 && canonB r && r != [48] && decide (valD r ≤ 9223372036854775808) then some (-(valD r : Int)) else none
  | [] => none
def smallP (l : Bs) : Option Int := match numP l with
 | some n => if 0 ≤ n ∧ n ≤ 999 then some n else none
 | none => none
def markP (l : Bs) (c : UInt8) : Option Int := match l with
 | d :: r => if d = c then smallP r else none
 | [] => none
def marksP (c : UInt8) : List Bs → Option (List Int)
 | [] => some []
 | w :: t => match markP w c with
   | some n => (match marksP c t with
     | some l => some (n :: l)
     | none => none)
   | none => none
def kindP : List Bs → Option Ty
 | [] => none
 | k :: r =>
   if k = bArray then (match r with
    | [a, b] => (match markP a 116, smallP b with
      | some n, some m => some ⟨5, n, m, []⟩
      | _, _ => none)
    | _ => none)
   else if k = bInt then (if r = [] then some ⟨1, 0, 0, []⟩ else none)
   else if k = bPtr then (match r with
    | [a] => (markP a 116).map fun n => ⟨2, n, 0, []⟩
    | _ => none)
   else if k = bFn then (match marksP 116 r with
    | some (n :: l) => some ⟨3, n, 0, l⟩
    | _ => none)
   else if k = bStruct then (marksP 116 r).map fun l => ⟨4, 0, 0, l⟩
   else none
def numberP (op : Nat) (s : Bs) : Option Int := if op = 1 then numP s else if op = 14 then smallP s else markP s 102
def phiP : List Bs → Option (List Int × List Int)
 | [] => some ([], [])
 | [_] => none
 | b :: r :: t => match markP b 98, markP r 114, phiP t with
   | some n, some m, some (f, a) => some (n :: f, m :: a)
   | _, _, _ => none
def regP (op : Nat) (w : List Bs) : Option (Int × Int × List Bs) :=
 if hasT op 1 then (match w with
  | x :: y :: t => (match markP x 114, markP y 114 with
    | some a, some b => some (a, b, t)
    | _, _ => none)
  | _ => none)
 else if hasT op 0 then (match w with
  | x :: t => (markP x 114).map fun a => (a, 0, t)
  | [] => none)
 else some (0, 0, w)
def numW (op : Nat) (w : List Bs) : Option (Int × List Bs) :=
 if hasT op 2 then (match w with
  | x :: t => (numberP op x).map fun n => (n, t)
  | [] => none)
 else some (0, w)
def argsW (op : Nat) (w : List Bs) : Option (List Int) := if hasT op 3 then marksP 114 w else if w = [] then some [] else none
def hasP (op : Nat) (ty : Int) (w : List Bs) : Option PIns :=
 if op = 22 then (phiP w).map fun q => ⟨22, ty, 0, 0, 0, q.2, q.1⟩
 else match regP op w with
  | some (a, b, w1) => (match numW op w1 with
    | some (n, w2) => (argsW op w2).map fun l => ⟨op, ty, a, b, n, l, []⟩
    | none => none)
  | none => none
def plainP : List Bs → Option PIns
 | o :: rest => if opP o ≠ 0 ∧ hasT (opP o) 5 = false then hasP (opP o) 0 rest else none
 | [] => none
def insP (w : List Bs) (reg : Int) : Option PIns := match w with
 | r :: t :: e :: o :: rest => if e = bEq then (match markP r 114, markP t 116 with
    | some n, some ty => if n = reg ∧ hasT (opP o) 5 = true then hasP (opP o) ty rest else none
    | _, _ => none) else plainP w
 | _ => plainP w
def isEndP (w : Bs) : Bool := w == bJump || w == bBranch || w == bReturn
def endP : List Bs → Option PEnd
 | k :: r =>
   if k = bJump then (match r with
    | [a] => (markP a 98).map fun n => ⟨1, 0, n, 0⟩
    | _ => none)
   else if k = bReturn then (match r with
    | [a] => (markP a 114).map fun n => ⟨3, n, 0, 0⟩
    | _ => none)
   else (match r with
    | [a, b, c] => (match markP a 114, markP b 98, markP c 98 with
      | some n, some t, some e => some ⟨2, n, t, e⟩
      | _, _, _ => none)
    | _ => none)
 | [] => none
def blockP : List (List Bs) → Int → Option (List PIns × PEnd × List (List Bs))
 | [], _ => none
 | l :: t, reg =>
   if isEndP (l.headD []) then (endP l).map fun e => ([], e, t)
   else match insP l reg with
    | some x => (match blockP t (reg + 1) with
      | some (xs, e, r) => some (x :: xs, e, r)
      | none => none)
    | none => none
def isBlockP : List (List Bs) → Bool
 | l :: _ => l.headD [] == bBlock
 | [] => false
def blocksP : Nat → List (List Bs) → Int → Option (List PBlk × List (List Bs))
 | 0, l, _ => some ([], l)
 | f + 1, l, reg =>
   if isBlockP l then
    (if (l.headD []).length = 1 then
      (match blockP (l.drop 1) reg with
        | some (xs, e, r) => (match blocksP f r (reg + xs.length) with
          | some (bs, r') => some (⟨xs, e⟩ :: bs, r')
          | none => none)
        | none => none)
    else none)
   else some ([], l)
def regOf (types : List Ty) (sig : Int) : Int := if sig < types.length then (types.getD sig.toNat default).parts.length else 0
def funsP : Nat → List Ty → List (List Bs) → Option (List PFun)
 | 0, _, l => if l = [] then some [] else none
 | f + 1, types, l => match l with
   | [] => some []
   | [k, s] :: t => if k = bFunc then (match markP s 116 with
      | some sig => (match blocksP t.length t (regOf types sig) with
        | some (bs, r) => (match funsP f types r with
          | some fs => some (⟨sig, bs⟩ :: fs)
          | none => none)
        | none => none)
      | none => none) else none
   | _ :: _ => none
def typesP : List (List Bs) → Option (List Ty × List (List Bs))
 | [] => some ([], [])
 | l :: t => if l.headD [] = bType then (match kindP (l.drop 1) with
    | some ty => (match typesP t with
      | some (ts, r) => some (ty :: ts, r)
      | none => none)
    | none => none) else some ([], l :: t)
def programP (l : List (List Bs)) : Option PProg := match typesP l with
 | some (ts, r) => (match funsP r.length ts r with
   | some fs => some ⟨ts, fs⟩
   | none => none)
 | none => none
def noProg : PProg := ⟨[], []⟩
def readE (s : Bs) : PProg × Int := match linesP s with
 | none => (noProg, 4)
 | some l => match programP l with
   | none => (noProg, 70)
   | some p => if checkP p ≠ 0 then (noProg, checkP p) else (p, 0)
def errN : Option Int → Int
 | some _ => 0
 | none => 10
theorem numP_told (l : Bs) : Told l ((numP l).getD 0) (errN (numP l)) := by
 have key : ∀ o, numP l = o → Told l (o.getD 0) (errN o) := by
  intro o ho
  unfold numP at ho
  by_cases h1 : (canonB l && decide (valD l ≤ 9223372036854775807)) = true
  · rw [if_pos h1] at ho
    subst ho
    simp only [Bool.and_eq_true, decide_eq_true_eq] at h1
    exact told_yes (numOf_pos (canonB_iff.1 h1.1) h1.2)
  · rw [if_neg h1] at ho
    have h1' := Bool.not_eq_true _ ▸ h1
    cases l with
    | nil =>
      subst ho
      exact told_no (num_bad (by decide))
    | cons c r =>
      dsimp only at ho
      by_cases h2 : (c == 45 && canonB r && r != [48] && decide (valD r ≤ 9223372036854775808)) = true
      · rw [if_pos h2] at ho
        subst ho
        simp only [Bool.and_eq_true, decide_eq_true_eq, beq_iff_eq, bne_iff_ne, ne_eq] at h2
        obtain ⟨⟨⟨rfl, h3⟩, h4⟩, h5⟩ := h2
        exact told_yes (numOf_neg (canonB_iff.1 h3) h4 h5)
      · rw [if_neg h2] at ho
        subst ho
        refine told_no (num_bad ?_)
        unfold badB
        rw [h1']
        dsimp only
        rw [Bool.eq_false_iff.2 h2]
        rfl
 exact key _ rfl
end Go.Proofs.YtbffebcjimhapaaGreatDoor
namespace Go.Proofs.YtbffebcjimhapaaGreatDoor
set_option linter.unusedVariables false
set_option linter.unusedSimpArgs false
open Go.ChangeShapes Go.WideShapes Go.ChangeAt Go.RowKit
def kindN (i : Nat) : Int := if i = 32 ∨ i = 9 ∨ i = 13 then 1 else if i = 10 then 2 else if i = 35 then 3 else 0
def kindB (c : UInt8) : Int := if isBlank c then 1 else if c = 10 then 2 else if c = 35 then 3 else 0
theorem kind_small {c : UInt8} : kindB c = kindN c.toNat := by
 unfold kindB kindN isBlank
 have h : ∀ d : UInt8, c = d ↔ c.toNat = d.toNat := fun d => UInt8.toNat_inj.symm
 simp only [Bool.or_eq_true, beq_iff_eq, h]
 have e1 : (32 : UInt8).toNat = 32 := rfl
 have e2 : (9 : UInt8).toNat = 9 := rfl
 have e3 : (13 : UInt8).toNat = 13 := rfl
 have e4 : (10 : UInt8).toNat = 10 := rfl
 have e5 : (35 : UInt8).toNat = 35 := rfl
 rw [e1, e2, e3, e4, e5]
 by_cases h1 : c.toNat = 32 ∨ c.toNat = 9 ∨ c.toNat = 13
 · rw [if_pos h1, if_pos (by omega)]
 · rw [if_neg h1, if_neg (by omega)]
theorem kind_great {i : Nat} (h : 64 ≤ i) : kindN i = 0 := by
 unfold kindN
 rw [if_neg (by omega), if_neg (by omega), if_neg (by omega)]
structure Rd (w : World) (g : Nat) (s : ByteArray) (p : Nat) (ws ls : Value) : Prop where
 blk : TBlk w g 104
 text : w.cell? ⟨g, 0, none⟩ = some (.string s)
 place : w.cell? ⟨g, 1, none⟩ = some (.int .i64 p)
 kinds : ∀ i, i < 64 → w.cell? ⟨g, 2 + i, none⟩ = some (.int .i64 (kindN i))
 words : w.cell? ⟨g, 66, none⟩ = some ws
 lines : w.cell? ⟨g, 67, none⟩ = some ls
theorem Rd.lt {w : World} {g : Nat} {s : ByteArray} {p : Nat} {ws ls : Value} (h : Rd w g s p ws ls) : g < w.heap.size := World.block_lt_of_cell? w _ h.text
theorem Rd.free {w : World} {g : Nat} {s : ByteArray} {p : Nat} {ws ls : Value} (h : Rd w g s p ws ls) (i : Nat) : w.frozen? ⟨g, i, none⟩ = false := by
 obtain ⟨cur, h⟩ := h.blk
 simp [World.frozen?, h]
theorem Rd.on {w w' : World} {g : Nat} {s : ByteArray} {p : Nat} {ws ls : Value} (h : Rd w g s p ws ls) (e : w'.heap[g]? = w.heap[g]?) : Rd w' g s p ws ls := by
 have hc : ∀ i, w'.cell? ⟨g, i, none⟩ = w.cell? ⟨g, i, none⟩ := fun i => World.cell?_of_block (a := ⟨g, i, none⟩) e
 obtain ⟨cur, hb⟩ := h.blk
 exact ⟨⟨cur, e.trans hb⟩, (hc 0).trans h.text, (hc 1).trans h.place, fun i hi => (hc _).trans (h.kinds i hi), (hc 66).trans h.words, (hc 67).trans h.lines⟩
set_option maxRecDepth 100000 in
theorem kind_any {w : World} {g : Nat} {s : ByteArray} {p : Nat} {ws ls : Value} (h : Rd w g s p ws ls) (hp : p < s.size) :
 Calls Tryz.prog 99 #[.pointer (some ⟨g, 0, none⟩)] w fun e w' => e = .returned (.int .i64 (kindB (s[p]'hp))) ∧ ∃ n, w' = w.drewN n := by
 have c0 := h.text
 have c1 := h.place
 have hpz : (p : Int) < (s.size : Int) := by omega
 have HK := Lib.hid h.kinds
 rw [kind_small]
 clear h
 by_cases hs : (s[p]'hp).toNat < 64
 · have d0 := HK.out _ hs
   have hsz : (((s[p]'hp).toNat : Nat) : Int) < 64 := by omega
   go_enter Tryz.func99, Tryz.ntmps99
   go_wp2_with fail
   go_quiet (fail)
   go_wp2_with fail
   go_ret
   exact ⟨rfl, _, rfl⟩
 · have hsz : ¬ (((s[p]'hp).toNat : Nat) : Int) < 64 := by omega
   have hb : (((s[p]'hp).toNat : Nat) : Int) < 256 := by have := (s[p]'hp).toNat_lt; omega
   rw [kind_great (by omega)]
   go_enter Tryz.func99, Tryz.ntmps99
   go_wp2_with fail
   go_quiet (fail)
   go_wp2_with fail
   go_ret
   exact ⟨rfl, _, rfl⟩
end Go.Proofs.YtbffebcjimhapaaGreatDoor
