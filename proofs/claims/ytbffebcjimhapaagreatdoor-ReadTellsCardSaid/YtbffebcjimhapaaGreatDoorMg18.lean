/-
  Where a text stands in a list; instructions' words. And what stands on it: RdIns0.
-/
import Derived.Test.YtbffebcjimhapaaGreatDoorMg17
import Derived.Deep.AppendLies
namespace Go.Proofs.YtbffebcjimhapaaGreatDoor
set_option linter.unusedVariables false
set_option linter.unusedSimpArgs false
open Go.ChangeShapes Go.WideShapes Go.ChangeAt Go.RowKit
def idxS (l : List Bs) (b : Bs) : Int := if l.idxOf b < l.length then (l.idxOf b : Int) else -1
theorem idx_at {l : List Bs} {b : Bs} {k : Nat} (hk : k < l.length) (h : l.getD k [] = b) (hn : ∀ i, i < k → l.getD i [] ≠ b) : idxS l b = k := by
 have hi : l.idxOf b = k := by
  induction l generalizing k with
  | nil => exact absurd hk (Nat.not_lt_zero _)
  | cons a t ih =>
    cases k with
    | zero =>
      have : a = b := h
      rw [this, List.idxOf_cons_self]
    | succ k =>
      have h0 : a ≠ b := hn 0 (Nat.succ_pos _)
      rw [List.idxOf_cons, show (a == b) = false from beq_eq_false_iff_ne.2 h0, cond_false, ih (Nat.lt_of_succ_lt_succ hk) h (fun i hi => hn (i + 1) (Nat.succ_lt_succ hi))]
 unfold idxS
 rw [hi, if_pos hk]
theorem idx_no {l : List Bs} {b : Bs} (hn : ∀ i, i < l.length → l.getD i [] ≠ b) : idxS l b = -1 := by
 unfold idxS
 refine if_neg fun h => ?_
 have := hn _ h
 rw [List.getD_eq_getElem?_getD, List.getElem?_eq_getElem h] at this
 exact this (by simp)
theorem map_getDs (xs : List ByteArray) (i : Nat) : (xs.map toL).getD i [] = toL (xs.getD i ⟨#[]⟩) := by
 rw [List.getD_eq_getElem?_getD, List.getD_eq_getElem?_getD, List.getElem?_map]
 cases xs[i]? <;> rfl
theorem indexStrs_any {w : World} {A : Option Addr} {c : Nat} {xs : List ByteArray} (hh : Hdr A xs.length c) (hx : StrsAt w 0 w.heap.size A xs) (v : ByteArray) {r : Int} (hr : idxS (xs.map toL) (toL v) = r) :
 Calls Tryz.prog 161 #[.slice A xs.length c, .string v] w fun e w' => e = .returned (.int .i64 r) ∧ w' = w := by
 have hl := hh.cle
 have HX := Lib.hid hx
 have HR := Lib.hid hr
 clear hx hh hr
 go_enter Tryz.func161, Tryz.ntmps161
 go_wp2_with fail
 go_loopw [8] (fun i wr => ∃ k : Nat, k ≤ xs.length ∧ i = .int .i64 k ∧ (∀ j, j < k → (xs.map toL).getD j [] ≠ toL v) ∧ wr = w) (fun i _ => xs.length - (intOf i).toNat)
 case atStart => exact ⟨0, Nat.zero_le _, rfl, fun j hj => absurd hj (Nat.not_lt_zero _), rfl⟩
 case round =>
  obtain ⟨k, hk, rfl, hnot, rfl⟩ := hrel
  have HN := Lib.hid hnot
  clear hnot
  by_cases hlt : k < xs.length
  · obtain ⟨b, off, x, rfl, _, hcell, HE⟩ := HX.out.elem hlt
    by_cases hxy : toL x = toL v
    · have heq : (v.toList == x.toList) = true := by rw [ByteArray.toList_eq, ByteArray.toList_eq]; exact beq_iff_eq.2 hxy.symm
      have HQ : Hid (r = k) := Lib.hid (by rw [← HR.out]; exact idx_at (by rw [List.length_map]; exact hlt) (by rw [map_getDs, HE.out]; exact hxy) HN.out)
      clear hxy
      go_wp2_with fail
      go_ret
      exact ⟨ret_num HQ.out.symm, rfl⟩
    · have heq : (v.toList == x.toList) = false := by rw [ByteArray.toList_eq, ByteArray.toList_eq]; exact beq_eq_false_iff_ne.2 fun e => hxy e.symm
      have HQ : Hid (∀ j, j < k + 1 → (xs.map toL).getD j [] ≠ toL v) := Lib.hid fun j hj => by
       by_cases hjk : j < k
       · exact HN.out j hjk
       · obtain rfl : j = k := by omega
         rw [map_getDs, HE.out]; exact hxy
      clear hxy
      go_wp2_with fail
      go_roundw
      case rel => exact ⟨k + 1, by omega, by go_num, HQ.out, by first | rfl | trivial⟩
      case measure => simp [intOf]; omega
  · have HQ : Hid (r = -1) := Lib.hid (by rw [← HR.out]; exact idx_no fun i hi => HN.out i (by rw [List.length_map] at hi; omega))
    go_wp2_with fail
    go_ret
    exact ⟨ret_num HQ.out.symm, rfl⟩
theorem containsStrs_any {w : World} {A : Option Addr} {c : Nat} {xs : List ByteArray} (hh : Hdr A xs.length c) (hx : StrsAt w 0 w.heap.size A xs) (v : ByteArray) {r : Int} (hr : idxS (xs.map toL) (toL v) = r) :
 Calls Tryz.prog 137 #[.slice A xs.length c, .string v] w fun e w' => e = .returned (.bool (decide (0 ≤ r))) ∧ w' = w := by
 have HC := Lib.hid (indexStrs_any hh hx v hr)
 clear hh hx hr
 go_enter Tryz.func137, Tryz.ntmps137
 go_wp2_with (go_at_call 161; refine HC.out.mono ?_; rintro e w1 ⟨rfl, rfl⟩)
 go_ret
 exact ⟨rfl, rfl⟩
def opS : List ByteArray := [⟨#[]⟩, ⟨#[105, 110, 116]⟩, ⟨#[110, 117, 108, 108]⟩, ⟨#[102, 110]⟩, ⟨#[97, 100, 100]⟩, ⟨#[115, 117, 98]⟩, ⟨#[109, 117, 108]⟩, ⟨#[100, 105, 118]⟩, ⟨#[108, 101, 115, 115]⟩, ⟨#[101, 113]⟩, ⟨#[115, 97, 109, 101]⟩, ⟨#[110, 101, 119]⟩, ⟨#[108, 111, 99, 97, 108]⟩, ⟨#[102, 114, 101, 101]⟩, ⟨#[102, 105, 101, 108, 100]⟩, ⟨#[101, 108, 101, 109]⟩, ⟨#[108, 111, 97, 100]⟩, ⟨#[115, 116, 111, 114, 101]⟩, ⟨#[99, 97, 108, 108]⟩, ⟨#[105, 99, 97, 108, 108]⟩, ⟨#[114, 101, 97, 100]⟩, ⟨#[112, 114, 105, 110, 116]⟩, ⟨#[112, 104, 105]⟩]
theorem opS_words : opS.map toL = opWords := rfl
theorem strs_new {W : World} {g : Nat} {xs : List ByteArray} (h : Blk W g 9 (xs.map Value.string).toArray) : StrsAt W 0 W.heap.size (some ⟨g, 0, none⟩) xs := fun hn => ⟨g, 0, rfl, Nat.zero_le _, h.lt, fun i hi j hj => by
 obtain rfl : j = 0 := by omega
 rw [Nat.mul_one, Nat.add_zero, Nat.zero_add, h.cells i, List.getElem?_toArray, List.getElem?_map, List.getElem?_eq_getElem hi]
 show some (Value.string xs[i]) = some (Value.string (xs.getD i ⟨#[]⟩))
 rw [List.getD_eq_getElem?_getD, List.getElem?_eq_getElem hi]
 rfl⟩
theorem ops_any (w : World) : Calls Tryz.prog 162 #[] w fun e w' => e = .returned (.slice (some ⟨w.heap.size, 0, none⟩) 23 23) ∧ Blk w' w.heap.size 9 (opS.map Value.string).toArray ∧ Below w.heap.size w w' := by
 have HN := Lib.hid (Blk.new w 9 (opS.map Value.string).toArray)
 go_enter Tryz.func162, Tryz.ntmps162
 go_wp2_with fail
 go_ret
 exact ⟨rfl, HN.out, (Below.refl _ _).alloc (Nat.le_refl _) _⟩
set_option maxRecDepth 100000 in
theorem step_app1 {w : World} {ops : Array Oper} {o : Oper} {a : Act} {K : Act → World → Prop} {Q : Exit → Act → World → Prop} {E : Prop} (hgd : o.guard = none) (s x : Operand)
 (ho : o.op = .call { callee := .builtin .append, args := #[s, x], argTypes := #[72, 72] })
 (base : Nat) (v : Value) (xs : List Int) (hs : a.eval s = v) (y : Int) (hown : OwnInts w base v xs) (B : Nat) (hx : a.eval x = .slice (some ⟨B, 0, none⟩) 1 1) (hB : Blk w B 3 #[.int .i64 y])
 (hlen : xs.length ≤ 1000000) (hbase : base ≤ w.heap.size)
 (h : ∀ v' w', OwnInts w' base v' (xs ++ [y]) → w.grownBy w' v.ownBlock → (∀ k, v'.ownBlock = some k → v.ownBlock = some k ∨ w.heap.size ≤ k) → K (a.put o.dst v') w') :
 if Region.wanted o (yielded ops a.tmps) = true then Oper.wp Tryz.prog o a w K Q else E := by
 obtain ⟨i0, hi, hz0, hz1, hz2⟩ := info_parts intInfo
 refine step_append_lies (P := Tryz.prog) w hgd s x 72 ho base 3 i0 _ 1 8 Tryz.underlying72 hi hz0 hz1 hz2 rfl (by decide) v xs.length _ hs hown ⟨B, 0, none⟩ 1 1 [.int .i64 y] hx rfl (World.news_of_block hB) ?_ (by omega) ?_ ?_ hbase _ rfl ?_
 · intro u hu
   simp at hu
   subst hu
   rfl
 · unfold maxLen; omega
 · omega
 · intro g cap w2 h1 h2 h3 h4
   refine h _ w2 (by unfold OwnInts; rw [List.length_append, List.map_append]; exact h1) h2 (fun k hk => ?_)
   have e1 : g = k := Option.some.inj hk
   subst e1
   rcases h3 with h3 | h3
   · exact .inl h3
   · exact .inr (by omega)
section
variable {g B : Nat} {w0 w : World} {l : LsR} {x : LnR} {tv fv : Value} {t : TypeId} {x0 x1 x2 x3 x4 x5 x6 : Value}
theorem Bx.seven (h : Bx w0 w g l x tv fv B t #[x0, x1, x2, x3, x4, x5, x6]) (h1 : 9 ≠ t) (h2 : 51 ≠ t) (h3 : 55 ≠ t) (a0 a1 a2 a3 a4 a5 a6 : Value) :
 Bx w0 (((((((w.setCell ⟨B, 0, none⟩ a0).setCell ⟨B, 1, none⟩ a1).setCell ⟨B, 2, none⟩ a2).setCell ⟨B, 3, none⟩ a3).setCell ⟨B, 4, none⟩ a4).setCell ⟨B, 5, none⟩ a5).setCell ⟨B, 6, none⟩ a6) g l x tv fv B t #[a0, a1, a2, a3, a4, a5, a6] := by
 have s0 : Bx w0 (w.setCell ⟨B, 0, none⟩ a0) g l x tv fv B t #[a0, x1, x2, x3, x4, x5, x6] := h.put h1 h2 h3 0 a0
 have s1 : Bx w0 ((w.setCell ⟨B, 0, none⟩ a0).setCell ⟨B, 1, none⟩ a1) g l x tv fv B t #[a0, a1, x2, x3, x4, x5, x6] := s0.put h1 h2 h3 1 a1
 have s2 : Bx w0 (((w.setCell ⟨B, 0, none⟩ a0).setCell ⟨B, 1, none⟩ a1).setCell ⟨B, 2, none⟩ a2) g l x tv fv B t #[a0, a1, a2, x3, x4, x5, x6] := s1.put h1 h2 h3 2 a2
 have s3 : Bx w0 ((((w.setCell ⟨B, 0, none⟩ a0).setCell ⟨B, 1, none⟩ a1).setCell ⟨B, 2, none⟩ a2).setCell ⟨B, 3, none⟩ a3) g l x tv fv B t #[a0, a1, a2, a3, x4, x5, x6] := s2.put h1 h2 h3 3 a3
 have s4 : Bx w0 (((((w.setCell ⟨B, 0, none⟩ a0).setCell ⟨B, 1, none⟩ a1).setCell ⟨B, 2, none⟩ a2).setCell ⟨B, 3, none⟩ a3).setCell ⟨B, 4, none⟩ a4) g l x tv fv B t #[a0, a1, a2, a3, a4, x5, x6] := s3.put h1 h2 h3 4 a4
 have s5 : Bx w0 ((((((w.setCell ⟨B, 0, none⟩ a0).setCell ⟨B, 1, none⟩ a1).setCell ⟨B, 2, none⟩ a2).setCell ⟨B, 3, none⟩ a3).setCell ⟨B, 4, none⟩ a4).setCell ⟨B, 5, none⟩ a5) g l x tv fv B t #[a0, a1, a2, a3, a4, a5, x6] := s4.put h1 h2 h3 5 a5
 have s6 : Bx w0 (((((((w.setCell ⟨B, 0, none⟩ a0).setCell ⟨B, 1, none⟩ a1).setCell ⟨B, 2, none⟩ a2).setCell ⟨B, 3, none⟩ a3).setCell ⟨B, 4, none⟩ a4).setCell ⟨B, 5, none⟩ a5).setCell ⟨B, 6, none⟩ a6) g l x tv fv B t #[a0, a1, a2, a3, a4, a5, a6] := s5.put h1 h2 h3 6 a6
 exact s6
theorem spare_seven (hb : Blk w B t #[x0, x1, x2, x3, x4, x5, x6]) (a0 a1 a2 a3 a4 a5 a6 : Value) :
 Spare t w (((((((w.setCell ⟨B, 0, none⟩ a0).setCell ⟨B, 1, none⟩ a1).setCell ⟨B, 2, none⟩ a2).setCell ⟨B, 3, none⟩ a3).setCell ⟨B, 4, none⟩ a4).setCell ⟨B, 5, none⟩ a5).setCell ⟨B, 6, none⟩ a6) := by
 have b0 : Blk (w.setCell ⟨B, 0, none⟩ a0) B t #[a0, x1, x2, x3, x4, x5, x6] := hb.put 0 a0
 have b1 : Blk ((w.setCell ⟨B, 0, none⟩ a0).setCell ⟨B, 1, none⟩ a1) B t #[a0, a1, x2, x3, x4, x5, x6] := b0.put 1 a1
 have b2 : Blk (((w.setCell ⟨B, 0, none⟩ a0).setCell ⟨B, 1, none⟩ a1).setCell ⟨B, 2, none⟩ a2) B t #[a0, a1, a2, x3, x4, x5, x6] := b1.put 2 a2
 have b3 : Blk ((((w.setCell ⟨B, 0, none⟩ a0).setCell ⟨B, 1, none⟩ a1).setCell ⟨B, 2, none⟩ a2).setCell ⟨B, 3, none⟩ a3) B t #[a0, a1, a2, a3, x4, x5, x6] := b2.put 3 a3
 have b4 : Blk (((((w.setCell ⟨B, 0, none⟩ a0).setCell ⟨B, 1, none⟩ a1).setCell ⟨B, 2, none⟩ a2).setCell ⟨B, 3, none⟩ a3).setCell ⟨B, 4, none⟩ a4) B t #[a0, a1, a2, a3, a4, x5, x6] := b3.put 4 a4
 have b5 : Blk ((((((w.setCell ⟨B, 0, none⟩ a0).setCell ⟨B, 1, none⟩ a1).setCell ⟨B, 2, none⟩ a2).setCell ⟨B, 3, none⟩ a3).setCell ⟨B, 4, none⟩ a4).setCell ⟨B, 5, none⟩ a5) B t #[a0, a1, a2, a3, a4, a5, x6] := b4.put 5 a5
 have s0 : Spare t w (w.setCell ⟨B, 0, none⟩ a0) := Spare.set hb a0
 have s1 : Spare t w ((w.setCell ⟨B, 0, none⟩ a0).setCell ⟨B, 1, none⟩ a1) := s0.trans (Spare.set b0 a1)
 have s2 : Spare t w (((w.setCell ⟨B, 0, none⟩ a0).setCell ⟨B, 1, none⟩ a1).setCell ⟨B, 2, none⟩ a2) := s1.trans (Spare.set b1 a2)
 have s3 : Spare t w ((((w.setCell ⟨B, 0, none⟩ a0).setCell ⟨B, 1, none⟩ a1).setCell ⟨B, 2, none⟩ a2).setCell ⟨B, 3, none⟩ a3) := s2.trans (Spare.set b2 a3)
 have s4 : Spare t w (((((w.setCell ⟨B, 0, none⟩ a0).setCell ⟨B, 1, none⟩ a1).setCell ⟨B, 2, none⟩ a2).setCell ⟨B, 3, none⟩ a3).setCell ⟨B, 4, none⟩ a4) := s3.trans (Spare.set b3 a4)
 have s5 : Spare t w ((((((w.setCell ⟨B, 0, none⟩ a0).setCell ⟨B, 1, none⟩ a1).setCell ⟨B, 2, none⟩ a2).setCell ⟨B, 3, none⟩ a3).setCell ⟨B, 4, none⟩ a4).setCell ⟨B, 5, none⟩ a5) := s4.trans (Spare.set b4 a5)
 have s6 : Spare t w (((((((w.setCell ⟨B, 0, none⟩ a0).setCell ⟨B, 1, none⟩ a1).setCell ⟨B, 2, none⟩ a2).setCell ⟨B, 3, none⟩ a3).setCell ⟨B, 4, none⟩ a4).setCell ⟨B, 5, none⟩ a5).setCell ⟨B, 6, none⟩ a6) := s5.trans (Spare.set b5 a6)
 exact s6
end
def PhiTo (W : List Bs) (fs ms : List Int) (W' : List Bs) : Prop := phiP W = (phiP W').map fun q => (fs ++ q.1, ms ++ q.2)
theorem phiP_two (b r : Bs) (t : List Bs) : phiP (b :: r :: t) = (match markP b 98, markP r 114, phiP t with
 | some n, some m, some (f, a) => some (n :: f, m :: a)
 | _, _, _ => none) := rfl
theorem PhiTo.start (W : List Bs) : PhiTo W [] [] W := by
 unfold PhiTo
 cases phiP W with
 | none => rfl
 | some q => rfl
theorem PhiTo.done {W : List Bs} {fs ms : List Int} (h : PhiTo W fs ms []) : phiP W = some (fs, ms) := by
 unfold PhiTo at h
 rw [h]
 show some (fs ++ [], ms ++ []) = _
 rw [List.append_nil, List.append_nil]
theorem PhiTo.step {W W' : List Bs} {fs ms : List Int} {b r : Bs} {n m : Int} (h : PhiTo W fs ms (b :: r :: W')) (hn : markP b 98 = some n) (hm : markP r 114 = some m) : PhiTo W (fs ++ [n]) (ms ++ [m]) W' := by
 unfold PhiTo at h ⊢
 rw [h, phiP_two, hn, hm]
 cases phiP W' with
 | none => rfl
 | some q =>
   show some (fs ++ n :: q.1, ms ++ m :: q.2) = some (fs ++ [n] ++ q.1, ms ++ [m] ++ q.2)
   rw [List.append_assoc, List.append_assoc]
   rfl
theorem PhiTo.stop1 {W W' : List Bs} {fs ms : List Int} {b : Bs} (h : PhiTo W fs ms (b :: W')) (hn : markP b 98 = none) : phiP W = none := by
 unfold PhiTo at h
 rw [h]
 cases W' with
 | nil => rfl
 | cons r t => rw [phiP_two, hn]; rfl
theorem PhiTo.stop0 {W : List Bs} {fs ms : List Int} {b : Bs} (h : PhiTo W fs ms [b]) : phiP W = none := by
 unfold PhiTo at h
 rw [h]
 rfl
theorem PhiTo.stop2 {W W' : List Bs} {fs ms : List Int} {b r : Bs} (h : PhiTo W fs ms (b :: r :: W')) (hm : markP r 114 = none) : phiP W = none := by
 unfold PhiTo at h
 rw [h, phiP_two, hm]
 cases markP b 98 <;> rfl
section
variable {g B : Nat} {w0 w w' : World} {l : LsR} {x : LnR} {tv fv : Value} {t : TypeId} {cs : Array Value}
theorem own_lt {lo : Nat} {v : Value} {xs : List Int} (h : OwnInts w lo v xs) {j : Nat} (hj : v.ownBlock = some j) : lo ≤ j ∧ j < w.heap.size := by
 rcases h.2 with ⟨h1, _⟩ | ⟨g, cap, cur, h1, h2, h3, _⟩
 · rw [h1] at hj; cases hj
 · rw [h1] at hj
   have e : g = j := Option.some.inj hj
   subst e
   exact ⟨h2, (Array.getElem?_eq_some_iff.1 h3).1⟩
theorem Bx.grown (h : Bx w0 w g l x tv fv B t cs) {lo size n : Nat} {e : TypeId} {v : Value} {xs : List Value} (ho : w.ownsRow lo e size v n xs) (hg : w.grownBy w' v.ownBlock) (hlo : w0.heap.size ≤ lo)
 (h0 : t ≠ e) (h1 : 9 ≠ e) (h2 : 51 ≠ e) (h3 : 55 ≠ e) : Bx w0 w' g l x tv fv B t cs := by
 have hs := Spare.grown ho hg
 exact ⟨hs.block _ _ _ _ h.blk h0, h.rd.spare hs h1 h2 h3, h.tn.grown hg (fun k hk => Nat.le_trans hlo (own_base ho k hk)), h.lo⟩
def Apart (u v : Value) : Prop := ∀ j, u.ownBlock = some j → v.ownBlock ≠ some j
theorem Apart.symm {u v : Value} (h : Apart u v) : Apart v u := fun j h1 h2 => h j h2 h1
theorem Apart.kept {u v : Value} {lo : Nat} {xs : List Int} (h : Apart u v) (ho : OwnInts w lo u xs) (hg : w.grownBy w' v.ownBlock) : OwnInts w' lo u xs := by
 refine ⟨ho.1, ?_⟩
 rcases ho.2 with h1 | ⟨g, cap, cur, h1, h2, h3, h4⟩
 · exact .inl h1
 · exact .inr ⟨g, cap, cur, h1, h2, (hg.block g (Array.getElem?_eq_some_iff.1 h3).1 (fun e => h g (by rw [h1]; rfl) e.symm)).trans h3, h4⟩
theorem Apart.grown {u v v' : Value} {lo : Nat} {xs : List Int} (h : Apart u v) (ho : OwnInts w lo u xs) (hat : ∀ k, v'.ownBlock = some k → v.ownBlock = some k ∨ w.heap.size ≤ k) : Apart u v' := fun j h1 h2 => by
 rcases hat j h2 with h3 | h3
 · exact h j h1 h3
 · have := (own_lt ho h1).2
   omega
theorem Apart.nil (v : Value) : Apart (.slice none 0 0) v := fun j h1 => by cases h1
end
end Go.Proofs.YtbffebcjimhapaaGreatDoor
