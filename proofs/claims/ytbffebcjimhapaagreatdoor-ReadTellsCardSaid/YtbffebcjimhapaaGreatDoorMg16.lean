/-
  The reference's words of a line. And what stands on it: LexRef3, LexProg5, NumRef, NumRef2, NumSmall2, LexMark, RdState.
-/
import Derived.Test.YtbffebcjimhapaaGreatDoorMg7
import Derived.Test.YtbffebcjimhapaaGreatDoorMg8
import Derived.Test.YtbffebcjimhapaaGreatDoorMg9
import Derived.Test.YtbffebcjimhapaaGreatDoorMg10
import Derived.Test.YtbffebcjimhapaaGreatDoorMg11
import Derived.Test.YtbffebcjimhapaaGreatDoorMg13
import Derived.Test.YtbffebcjimhapaaGreatDoorMg15
import Derived.Lib.ConvBytes
import Derived.Laws.IdiomStrings
import Derived.Laws.Concat
import Derived.Laws.BytesString
import Derived.WalkSpells
import Derived.LoopTactic
namespace Go.Proofs.YtbffebcjimhapaaGreatDoor
set_option linter.unusedVariables false
set_option linter.unusedSimpArgs false
open Go.ChangeShapes Go.WideShapes Go.ChangeAt Go.RowKit
structure BtsAt (w : World) (g : Nat) (l : Bs) : Prop where
 lt : g < w.heap.size
 cell : ∀ j, j < l.length → w.cell? ⟨g, j, none⟩ = some (.int .u8 (l.getD j 0).toNat)
 free : ∀ j, j < l.length → w.frozen? ⟨g, j, none⟩ = false
theorem BtsAt.on {w w' : World} {g : Nat} {l : Bs} (h : BtsAt w g l) (hb : Below w.heap.size w w') : BtsAt w' g l :=
 ⟨Nat.lt_of_lt_of_le h.lt hb.size, fun j hj => (hb.cell (p := ⟨g, j, none⟩) h.lt).trans (h.cell j hj), fun j hj => (World.frozen?_of_block (hb.block g h.lt)).trans (h.free j hj)⟩
theorem BtsAt.put {w : World} {g : Nat} {l : Bs} (h : BtsAt w g l) {k : Nat} (hk : k < l.length) (c : UInt8) : BtsAt (w.setCell ⟨g, k, none⟩ (.int .u8 c.toNat)) g (l.set k c) := by
 refine ⟨by rw [show (w.setCell ⟨g, k, none⟩ (.int .u8 c.toNat)).heap.size = w.heap.size by simp [World.setCell]]; exact h.lt, fun j hj => ?_, fun j hj => ?_⟩
 · rw [List.length_set] at hj
   by_cases e : j = k
   · subst e
     rw [World.cell?_setCell_same w _ _ (h.cell j hj)]
     simp [List.getD, hj]
   · rw [World.cell?_setCell_other _ _ _ _ (fun e2 => e (by injection e2 with _ e2 _; exact e2.symm)), h.cell j hj]
     have e3 : ¬ k = j := fun e4 => e e4.symm
     simp [List.getD, List.getElem?_set, e3]
 · rw [List.length_set] at hj
   have := h.free j hj
   simpa [World.frozen?_setCell] using this
theorem bytes_below (w : World) (e : TypeId) (s : ByteArray) : Below w.heap.size w (Lib.bytesWorld w e s) := by
 have h : Below w.heap.size w (w.drew.alloc (.cells (Lib.bytesCells w e s) e)) := ((Below.refl _ _).drew).alloc (Nat.le_refl _) _
 exact ⟨h.os, h.tape, h.output, by rw [Lib.bytesWorld_size]; omega, fun k hk => Lib.bytesWorld_at_old w e s k hk⟩
theorem bytes_at (w : World) (e : TypeId) (s : ByteArray) : BtsAt (Lib.bytesWorld w e s) w.heap.size (toL s) := by
 refine ⟨by rw [Lib.bytesWorld_size]; omega, fun j hj => ?_, fun j hj => ?_⟩
 · rw [toL_size] at hj
   exact Lib.bytesWorld_cell w e s j hj
 · rw [toL_size] at hj
   have hlt : j < (Lib.bytesCells w e s).size := by
    simp [Lib.bytesCells]
    have : s.data.size = s.size := rfl
    omega
   simp [World.frozen?, Lib.bytesWorld_at_new]
   omega
def turned (l : Bs) (k : Nat) : Bs := spaced (l.take k) ++ l.drop k
theorem turned_len (l : Bs) (k : Nat) : (turned l k).length = l.length := by
 unfold turned spaced
 rw [List.length_append, List.length_map, List.length_take, List.length_drop]
 omega
theorem turned_at (l : Bs) {k : Nat} (h : k < l.length) : (turned l k).getD k 0 = l.getD k 0 := by
 unfold turned spaced
 rw [List.getD_eq_getElem?_getD, List.getElem?_append_right (by rw [List.length_map, List.length_take]; omega), List.length_map, List.length_take, List.getElem?_drop, show k + (k - min k l.length) = k by omega, List.getD_eq_getElem?_getD]
theorem turned_on (l : Bs) {k : Nat} (h : k < l.length) : turned l (k + 1) = (turned l k).set k (if l.getD k 0 = 9 ∨ l.getD k 0 = 13 then 32 else l.getD k 0) := by
 unfold turned
 have hd : l.drop k = l[k] :: l.drop (k + 1) := List.drop_eq_getElem_cons h
 have ht : l.take (k + 1) = l.take k ++ [l[k]] := by rw [List.take_add_one, List.getElem?_eq_getElem h]; rfl
 have hg : l.getD k 0 = l[k] := by rw [List.getD_eq_getElem?_getD, List.getElem?_eq_getElem h]; rfl
 rw [hd, ht, hg]
 unfold spaced
 rw [List.map_append, List.set_append_right _ _ (by rw [List.length_map, List.length_take]; omega), List.length_map, List.length_take, show k - min k l.length = 0 by omega, List.append_assoc]
 rfl
theorem turned_all (l : Bs) : turned l l.length = spaced l := by
 unfold turned
 rw [List.take_length, List.drop_length, List.append_nil]
theorem turned_zero (l : Bs) : turned l 0 = l := by unfold turned spaced; simp
theorem beq_nat {a b : UInt8} (h : a ≠ b) : ((a.toNat : Int) == (b.toNat : Int)) = false := by
 rw [beq_eq_false_iff_ne]
 intro e
 exact h (UInt8.toNat_inj.1 (by omega))
theorem head_of {xs : List ByteArray} {m : List Bs} (h : xs.map toL = m) (hn : 0 < xs.length) : toL (xs.getD 0 ⟨#[]⟩) = m.headD [] := by
 subst h
 match xs, hn with
 | x :: r, _ => rfl
theorem cut_pos (x : UInt8) (s : Bs) : 0 < (cutB x s).length := by rw [cut_head]; exact Nat.succ_pos _
theorem cut_small (x : UInt8) : ∀ s : Bs, (cutB x s).length ≤ s.length + 1 ∧ ∀ l ∈ cutB x s, l.length ≤ s.length
 | [] => ⟨Nat.le_refl _, fun l hl => by rw [List.mem_singleton.1 hl]; exact Nat.zero_le _⟩
 | c :: t => by
   obtain ⟨h1, h2⟩ := cut_small x t
   by_cases h : c = x
   · subst h
     rw [cut_at]
     refine ⟨by simp only [List.length_cons]; omega, fun l hl => ?_⟩
     rcases List.mem_cons.1 hl with rfl | hl
     · exact Nat.zero_le _
     · have := h2 l hl; simp only [List.length_cons]; omega
   · rw [cut_on h]
     rw [cut_head x t] at h1 h2
     refine ⟨by simp only [List.length_cons] at h1 ⊢; omega, fun l hl => ?_⟩
     rcases List.mem_cons.1 hl with rfl | hl
     · have := h2 _ (List.mem_cons_self ..); simp only [List.length_cons]; omega
     · have := h2 l (List.mem_cons_of_mem _ hl); simp only [List.length_cons]; omega
theorem set_same (l : Bs) {k : Nat} (h : k < l.length) : l.set k (l.getD k 0) = l := by
 rw [List.getD_eq_getElem?_getD, List.getElem?_eq_getElem h]
 exact List.set_getElem_self h
theorem toL_mk (l : Bs) : toL ⟨l.toArray⟩ = l := rfl
theorem spaced_len (l : Bs) : (spaced l).length = l.length := List.length_map _
def some_ (l : List Bs) : List Bs := l.filter fun w => !w.isEmpty
theorem some_on {xs : List ByteArray} {k : Nat} {x : ByteArray} (h : k < xs.length) (e : xs.getD k ⟨#[]⟩ = x) : some_ ((xs.take (k + 1)).map toL) = some_ ((xs.take k).map toL) ++ if x = ⟨#[]⟩ then [] else [toL x] := by
 have hx : xs[k] = x := by rw [← e, List.getD_eq_getElem?_getD, List.getElem?_eq_getElem h]; rfl
 rw [List.take_add_one, List.getElem?_eq_getElem h, hx]
 unfold some_
 rw [List.map_append, List.filter_append]
 congr 1
 by_cases h0 : x = ⟨#[]⟩
 · rw [if_pos h0, h0]; rfl
 · rw [if_neg h0]
   show ([toL x].filter fun w => !w.isEmpty) = [toL x]
   rw [List.filter_cons, if_pos]
   · rfl
   · cases ht : toL x with
     | nil => exact absurd (toL_inj (t := ⟨#[]⟩) ht) h0
     | cons a l => rfl
set_option maxRecDepth 100000 in
set_option maxHeartbeats 3200000 in
theorem words_any (s : ByteArray) (hs : s.size ≤ 90000) (w : World) : Calls Tryz.prog 63 #[.string s] w (SomeStrs (wordsR (toL s)) w) := by
 go_enter Tryz.func63, Tryz.ntmps63
 go_wp2_with fail
 refine (cut_any s 35 (by omega) w).mono ?_
 rintro e w1 ⟨v1, xs1, rfl, hown1, hm1, hb1⟩
 have hn1 : 0 < xs1.length := by
  have := congrArg List.length hm1
  rw [List.length_map] at this
  have := cut_pos 35 (toL s)
  omega
 have HX0 := Lib.hid (head_of hm1 hn1)
 obtain ⟨A1, c1, rfl, hh1, hs1⟩ := hown1.full
 obtain ⟨b1, o1, x0, rfl, hbl1, d0, HE0⟩ := hs1.elem hn1
 rw [HE0.out] at HX0
 have hsz0 : x0.size ≤ 90000 := by
  have h1 := (cut_small 35 (toL s)).2 (toL x0) (by rw [HX0.out, cut_head 35 (toL s)]; exact List.mem_cons_self ..)
  rw [toL_size, toL_size] at h1
  omega
 have HQ1 := Lib.hid hb1
 have hconv := Lib.run_convert_string_bytes (P := Tryz.prog) w1 9 130 5 x0 Tryz.underlying9 Tryz.underlying130 Tryz.underlying5
 have hBW := bytes_below w1 5 x0
 have hBA := bytes_at w1 5 x0
 generalize Lib.bytesWorld w1 5 x0 = W at hconv hBW hBA
 generalize grownCap w1 x0.size 0 5 = cap at hconv
 have HBW := Lib.hid hBW
 have HBA := Lib.hid hBA
 have hne1 : (0 : Int) < (xs1.length : Int) := by omega
 clear hm1 hown1 hh1 hs1 hb1 hBW hBA
 rw [Nat.add_zero] at d0
 obtain ⟨l, hl⟩ : ∃ l, toL x0 = l := ⟨_, rfl⟩
 rw [hl] at HX0 HBA
 have HLN : Hid (l.length = x0.size) := Lib.hid (by rw [← hl, toL_size])
 clear hl
 go_wp2_with fail
 clear hconv d0 hne1
 go_loopw [4] (fun i wr => ∃ k : Nat, k ≤ x0.size ∧ i = .int .i64 k ∧ Hid (BtsAt wr w1.heap.size (turned l k)) ∧ Hid (Below w1.heap.size w1 wr)) (fun i _ => x0.size - (intOf i).toNat)
 case atStart => exact ⟨0, Nat.zero_le _, rfl, Lib.hid (by rw [turned_zero]; exact HBA.out), HBW⟩
 case round =>
  obtain ⟨k, hk, rfl, HT, HB⟩ := hrel
  by_cases hlt : k < x0.size
  · have hkl : k < l.length := by rw [HLN.out]; exact hlt
    have hkt : k < (turned l k).length := by rw [turned_len]; exact hkl
    have d0 := HT.out.cell k hkt
    have f0 := HT.out.free k hkt
    have HG := Lib.hid (turned_at l hkl)
    rw [HG.out] at d0
    have HON := Lib.hid (turned_on l hkl)
    have HKT := Lib.hid hkt
    generalize l.getD k 0 = ch at d0 HON HG
    clear hkl hkt
    by_cases h9 : ch = 9
    · subst h9
      have d1 : wr.cell? ⟨w1.heap.size, k, none⟩ = some (.int .u8 9) := d0
      clear d0
      have HP : Hid (BtsAt (wr.setCell ⟨w1.heap.size, k, none⟩ (.int .u8 32)) w1.heap.size (turned l (k + 1))) := Lib.hid (by rw [HON.out, if_pos (.inl rfl)]; exact HT.out.put HKT.out 32)
      go_wp2_with fail
      go_roundw
      case rel => exact ⟨k + 1, by omega, by go_num, HP, Lib.hid (HB.out.setCell (Nat.le_refl _) _)⟩
      case measure => simp [intOf]; omega
    · by_cases h13 : ch = 13
      · subst h13
        have d1 : wr.cell? ⟨w1.heap.size, k, none⟩ = some (.int .u8 13) := d0
        clear d0 h9
        have HP : Hid (BtsAt (wr.setCell ⟨w1.heap.size, k, none⟩ (.int .u8 32)) w1.heap.size (turned l (k + 1))) := Lib.hid (by rw [HON.out, if_pos (.inr rfl)]; exact HT.out.put HKT.out 32)
        go_wp2_with fail
        go_roundw
        case rel => exact ⟨k + 1, by omega, by go_num, HP, Lib.hid (HB.out.setCell (Nat.le_refl _) _)⟩
        case measure => simp [intOf]; omega
      · have hq9 : ((ch.toNat : Int) == 9) = false := beq_nat h9
        have hq13 : ((ch.toNat : Int) == 13) = false := beq_nat h13
        have HP : Hid (BtsAt wr w1.heap.size (turned l (k + 1))) := Lib.hid (by
         rw [HON.out, if_neg (by rintro (h | h); exact h9 h; exact h13 h), ← HG.out, set_same _ HKT.out]
         exact HT.out)
        clear h9 h13
        go_wp2_with fail
        go_roundw
        case rel => exact ⟨k + 1, by omega, by go_num, HP, HB⟩
        case measure => simp [intOf]; omega
  · obtain rfl : k = x0.size := by omega
    have hT := HT.out
    rw [← HLN.out, turned_all] at hT
    have hback := run_convert_bytes_back (P := Tryz.prog) wr 130 9 5 ⟨w1.heap.size, 0, none⟩ cap (spaced l) Tryz.underlying130 Tryz.underlying5 Tryz.underlying9 (fun j hj => by
     rw [add_lit, Nat.zero_add, hT.cell j hj, List.getD_eq_getElem?_getD, List.getElem?_eq_getElem hj]
     rfl)
    rw [spaced_len, HLN.out] at hback
    obtain ⟨y0, hy0⟩ : ∃ y : ByteArray, (⟨(spaced l).toArray⟩ : ByteArray) = y := ⟨_, rfl⟩
    rw [hy0] at hback
    have HY : Hid (toL y0 = spaced l) := Lib.hid (by rw [← hy0]; exact toL_mk _)
    have hys : y0.size ≤ 90000 := by rw [← toL_size, HY.out, spaced_len, HLN.out]; exact hsz0
    clear hT hy0
    go_wp2_with fail
    refine (cut_any y0 32 (by omega) wr).mono ?_
    clear hback
    rintro e w3 ⟨v3, xs3, rfl, hown3, hm3, hb3⟩
    obtain ⟨A3, c3, rfl, hh3, hs3⟩ := hown3.full
    have HS3 := Lib.hid hs3
    have HM3 := Lib.hid hm3
    have HQ3 := Lib.hid (HQ1.out.trans ((HB.out.trans (hb3.mono HB.out.size)).mono HQ1.out.size))
    have hl3 : xs3.length ≤ 100000 := by
     have h1 := (cut_small 32 (toL y0)).1
     rw [← hm3, List.length_map, toL_size] at h1
     omega
    clear hown3 hm3 hb3 hh3 hs3
    go_wp2_with fail
    go_loopw [5, 7] (fun v i wx => ∃ (j : Nat) (acc : List ByteArray), j ≤ xs3.length ∧ acc.length ≤ j ∧ i = .int .i64 j ∧ Hid (OwnStrs wx w3.heap.size v acc) ∧ Hid (acc.map toL = some_ ((xs3.take j).map toL)) ∧ Hid (Below w3.heap.size w3 wx) ∧ Hid (Below w.heap.size w wx)) (fun _ i _ => xs3.length - (intOf i).toNat)
    case atStart => exact ⟨0, [], Nat.zero_le _, Nat.zero_le _, rfl, Lib.hid (OwnStrs.nil _ _), Lib.hid rfl, Lib.hid (Below.refl _ _), HQ3⟩
    case round =>
     obtain ⟨j, acc, hj, hal, rfl, HO, HF, HBX, HQX⟩ := hrel
     by_cases hjl : j < xs3.length
     · obtain ⟨b2, o2, x, rfl, hb2, d0, HE⟩ := (HS3.out.on HBX.out).elem hjl
       have HON := Lib.hid (some_on hjl HE.out)
       by_cases hx : x = ⟨#[]⟩
       · subst hx
         have HF1 : Hid (acc.map toL = some_ ((xs3.take (j + 1)).map toL)) := Lib.hid (by rw [HON.out, if_pos rfl, List.append_nil]; exact HF.out)
         go_wp2_with fail
         go_roundw
         case rel => exact ⟨j + 1, acc, by omega, by omega, by go_num, HO, HF1, HBX, HQX⟩
         case measure => simp [intOf]; omega
       · have hxe : toL x ≠ [] := fun e => hx (toL_inj (t := ⟨#[]⟩) e)
         have hq1 : (x.toList == []) = false := by rw [ByteArray.toList_eq]; exact beq_eq_false_iff_ne.2 hxe
         have hq2 : (x.toList == ByteArray.toList ⟨#[]⟩) = false := by rw [ByteArray.toList_eq, ByteArray.toList_eq]; exact beq_eq_false_iff_ne.2 hxe
         have hq3 : x.toList.isEmpty = false := by
          rw [ByteArray.toList_eq]
          cases h9 : x.data.toList with
          | nil => exact absurd h9 hxe
          | cons => rfl
         clear hxe
         have HF1 : Hid ((acc ++ [x]).map toL = some_ ((xs3.take (j + 1)).map toL)) := Lib.hid (by rw [HON.out, if_neg hx, List.map_append, HF.out]; rfl)
         clear hx
         go_wp2_with (at_builtin; refine wpList_appT rfl (.tmp 48) (.tmp 53) rfl w3.heap.size _ acc rfl x HO.out (by rfl) (by omega) HBX.out.size ?_; intro v' w5 hown hg; refine pause ?_)
         have HQ5 := Lib.hid (Below.grown (HQX.out.alloc HQX.out.size _) hg (HQX.out.alloc HQX.out.size _).size (fun q hq => Nat.le_trans HQ3.out.size (HO.out.base q hq)))
         have HO5 := Lib.hid hown
         have HB5 := Lib.hid (Below.grown (HBX.out.alloc HBX.out.size _) hg (HBX.out.alloc HBX.out.size _).size HO.out.base)
         clear hown hg
         refine resume ?_
         go_wp2_with fail
         go_roundw
         case rel => exact ⟨j + 1, acc ++ [x], by omega, by rw [List.length_append]; show acc.length + 1 ≤ j + 1; omega, by go_num, HO5, HF1, HB5, HQ5⟩
         case measure => simp [intOf]; omega
     · obtain rfl : j = xs3.length := by omega
       have hfin := HF.out
       rw [List.take_length, HM3.out, HY.out, HX0.out] at hfin
       have HFIN := Lib.hid hfin
       clear hfin
       go_wp2_with fail
       go_ret
       exact ⟨_, acc, rfl, HO.out.more HQ3.out.size, HFIN.out, HQX.out⟩
def wordsF (x : ByteArray) : List Bs := wordsR (toL x)
theorem takeF (xs : List ByteArray) {k : Nat} (h : k < xs.length) {x : ByteArray} (e : xs.getD k ⟨#[]⟩ = x) : (xs.take (k + 1)).map wordsF = (xs.take k).map wordsF ++ [wordsF x] := by
 have hx : xs[k] = x := by rw [← e, List.getD_eq_getElem?_getD, List.getElem?_eq_getElem h]; rfl
 rw [List.take_add_one, List.getElem?_eq_getElem h, hx, List.map_append]
 rfl
theorem anyF (xs : List ByteArray) {k : Nat} (h : k < xs.length) {x : ByteArray} (e : xs.getD k ⟨#[]⟩ = x) (hx : 64 < (wordsF x).length) : (xs.map wordsF).any (fun l => decide (64 < l.length)) = true := by
 have hx2 : xs[k] = x := by rw [← e, List.getD_eq_getElem?_getD, List.getElem?_eq_getElem h]; rfl
 rw [List.any_eq_true]
 exact ⟨wordsF x, List.mem_map.2 ⟨x, by rw [← hx2]; exact List.getElem_mem h, rfl⟩, decide_eq_true hx⟩
set_option maxRecDepth 100000 in
set_option maxHeartbeats 3200000 in
theorem rlines_any (s : ByteArray) (hs : s.size ≤ 20000) (w : World) : Calls Tryz.prog 26 #[.string s] w (LinesOut (linesP (toL s)) w) := by
 by_cases hbig : 16384 < s.size
 · have hq : (16384 : Int) < (s.size : Int) := by omega
   rw [show linesP (toL s) = none by unfold linesP; rw [toL_size, if_pos hbig]]
   clear hbig
   go_enter Tryz.func26, Tryz.ntmps26
   go_wp2_with fail
   go_ret2
   exact ⟨rfl, Below.refl _ _⟩
 · have hq : ¬ (16384 : Int) < (s.size : Int) := by omega
   obtain ⟨out, hout⟩ : ∃ o, linesP (toL s) = o := ⟨_, rfl⟩
   rw [hout]
   have HOUT : Hid (outR (toL s) [] [] = out) := Lib.hid (by rw [← hout]; unfold linesP; rw [toL_size, if_neg hbig])
   clear hbig hout
   go_enter Tryz.func26, Tryz.ntmps26
   go_wp2_with fail
   refine (cut_any s 10 (by omega) w).mono ?_
   rintro e w1 ⟨v1, xs1, rfl, hown1, hm1, hb1⟩
   obtain ⟨A1, c1, rfl, hh1, hs1⟩ := hown1.full
   have HS1 := Lib.hid hs1
   have HQ1 := Lib.hid hb1
   have HF : Hid ((cutB 10 (toL s)).map wordsR = xs1.map wordsF) := Lib.hid (by rw [← hm1, List.map_map]; rfl)
   have hl1 : xs1.length ≤ 30000 := by
    have h1 := (cut_small 10 (toL s)).1
    rw [← hm1, List.length_map, toL_size] at h1
    omega
   have HSM : Hid (∀ x ∈ xs1, x.size ≤ 90000) := Lib.hid fun x hx => by
    have h1 := (cut_small 10 (toL s)).2 (toL x) (by rw [← hm1]; exact List.mem_map.2 ⟨x, hx, rfl⟩)
    rw [toL_size, toL_size] at h1
    omega
   clear hown1 hh1 hs1 hb1 hm1
   go_wp2_with fail
   go_loopw [4, 6] (fun v i wr => ∃ (k : Nat) (acc : List LnR), k ≤ xs1.length ∧ acc.length ≤ k ∧ i = .int .i64 k ∧ Hid (OwnLines wr w1.heap.size v acc) ∧ Hid (((xs1.take k).map wordsF).any (fun l => decide (64 < l.length)) = false) ∧ Hid (acc.map LnR.data = ((xs1.take k).map wordsF).filter fun l => !l.isEmpty) ∧ Hid (Below w1.heap.size w1 wr)) (fun _ i _ => xs1.length - (intOf i).toNat)
   case atStart => exact ⟨0, [], Nat.zero_le _, Nat.zero_le _, rfl, Lib.hid (OwnLines.nil _ _), Lib.hid rfl, Lib.hid rfl, Lib.hid (Below.refl _ _)⟩
   case round =>
    obtain ⟨k, acc, hk, hal, rfl, HO, HN, HA, HB⟩ := hrel
    by_cases hlt : k < xs1.length
    · obtain ⟨b, off, x, rfl, hbl, d0, HE⟩ := (HS1.out.on HB.out).elem hlt
      have hxs : x.size ≤ 90000 := HSM.out x (by
       have := HE.out
       rw [List.getD_eq_getElem?_getD, List.getElem?_eq_getElem hlt] at this
       rw [← this]
       exact List.getElem_mem hlt)
      go_wp2_with fail
      refine (words_any x hxs wr).mono ?_
      rintro e w2 ⟨v2, xs2, rfl, hown2, hm2, hb2⟩
      obtain ⟨r, hv2, hr2, hok2⟩ := hown2.row
      obtain ⟨ra, rc, rxs⟩ := r
      have e1 : rxs = xs2 := hr2
      subst e1
      have e2 : v2 = .slice ra rxs.length rc := hv2
      subst e2
      have HLN : Hid ((wordsF x).length = rxs.length) := Lib.hid (by show (wordsR (toL x)).length = _; rw [← hm2, List.length_map])
      have HDT : Hid (LnR.data ⟨ra, rc, rxs⟩ = wordsF x) := Lib.hid hm2
      have HOK := Lib.hid hok2
      have HB2 := Lib.hid (HB.out.trans (hb2.mono HB.out.size))
      have HO2 := Lib.hid (HO.out.keep hb2)
      clear hown2 hm2 hb2 hv2 hr2 hok2 d0
      by_cases h64 : 64 < rxs.length
      · have h64z : (64 : Int) < (rxs.length : Int) := by omega
        have HNO : Hid (out = none) := Lib.hid (by rw [← HOUT.out, outR_start, HF.out, if_pos (anyF xs1 hlt HE.out (by rw [HLN.out]; exact h64))])
        obtain rfl := HNO.out
        clear h64
        go_wp2_with fail
        go_ret2
        exact ⟨rfl, HQ1.out.trans (HB2.out.mono HQ1.out.size)⟩
      · have h64z : ¬ (64 : Int) < (rxs.length : Int) := by omega
        have HN1 : Hid (((xs1.take (k + 1)).map wordsF).any (fun l => decide (64 < l.length)) = false) := Lib.hid (by
         rw [takeF xs1 hlt HE.out, List.any_append, HN.out, Bool.false_or, List.any_cons, List.any_nil, Bool.or_false]
         exact decide_eq_false (by rw [HLN.out]; exact h64))
        clear h64
        by_cases h0 : 0 < rxs.length
        · have h0z : (0 : Int) < (rxs.length : Int) := by omega
          have HA1 : Hid ((acc ++ [(⟨ra, rc, rxs⟩ : LnR)]).map LnR.data = ((xs1.take (k + 1)).map wordsF).filter fun l => !l.isEmpty) := Lib.hid (by
           rw [takeF xs1 hlt HE.out, List.filter_append, List.map_append, HA.out]
           congr 1
           show [LnR.data ⟨ra, rc, rxs⟩] = _
           rw [HDT.out, List.filter_cons, if_pos]
           · rfl
           · have h1 := HLN.out
             cases hw : wordsF x with
             | nil => rw [hw] at h1; have : (0 : Nat) = rxs.length := h1; omega
             | cons a l => rfl)
          clear h0
          go_wp2_with (at_builtin; refine wpList_appL rfl (.tmp 30) (.tmp 32) rfl w1.heap.size _ acc rfl ⟨ra, rc, rxs⟩ HO2.out HOK.out (by rfl) (by omega) HB2.out.size ?_; intro v' w3 hown hg; refine pause ?_)
          have HB3 := Lib.hid (Below.grown (HB2.out.alloc HB2.out.size _) hg (HB2.out.alloc HB2.out.size _).size (own_base HO2.out.row))
          have HO3 := Lib.hid hown
          clear hown hg
          refine resume ?_
          go_wp2_with fail
          go_roundw
          case rel => exact ⟨k + 1, acc ++ [(⟨ra, rc, rxs⟩ : LnR)], by omega, by rw [List.length_append]; show acc.length + 1 ≤ k + 1; omega, by go_num, HO3, HN1, HA1, HB3⟩
          case measure => simp [intOf]; omega
        · have h0z : ¬ (0 : Int) < (rxs.length : Int) := by omega
          have HA1 : Hid (acc.map LnR.data = ((xs1.take (k + 1)).map wordsF).filter fun l => !l.isEmpty) := Lib.hid (by
           rw [takeF xs1 hlt HE.out, List.filter_append, HA.out]
           have h1 : wordsF x = [] := List.eq_nil_of_length_eq_zero (by rw [HLN.out]; omega)
           rw [h1]
           exact (List.append_nil _).symm)
          clear h0
          go_wp2_with fail
          go_roundw
          case rel => exact ⟨k + 1, acc, by omega, by omega, by go_num, HO2, HN1, HA1, HB2⟩
          case measure => simp [intOf]; omega
    · obtain rfl : k = xs1.length := by omega
      have hn := HN.out
      have ha := HA.out
      rw [List.take_length] at hn ha
      have HSO : Hid (out = some (acc.map LnR.data)) := Lib.hid (by rw [← HOUT.out, outR_start, HF.out, if_neg (by rw [hn]; decide), ha])
      obtain rfl := HSO.out
      clear hn ha
      go_wp2_with fail
      go_ret2
      exact ⟨_, acc, rfl, HO.out.more HQ1.out.size, rfl, HQ1.out.trans (HB.out.mono HQ1.out.size)⟩
def rdA (s : ByteArray) : Array Value := (Value.string s :: .int .i64 0 :: (kindsA.toList ++ [.slice none 0 0, .slice none 0 0])).toArray
theorem wpList_build2 {P : Program} {ops : Array Oper} {Q : Exit → Act → World → Prop} {w : World} {rest : List Oper} {o : Oper} {a : Act} (hg : o.guard = none) (t : TypeId) (i j : Nat) (x y : Operand) (ho : o.op = .build t #[(i, x), (j, y)]) (vx vy : Value) (hx : a.eval x = vx) (hy : a.eval y = vy) (cs : Array Value)
 (hf : P.built t [(i, vx), (j, vy)] = some cs) (h : wpList P ops Q rest (a.put o.dst (.agg cs)) w) : wpList P ops Q (o :: rest) a w := by
 have e : ((#[(i, x), (j, y)] : Array (Nat × Operand)).map fun (i, x) => (i, a.eval x)).toList = [(i, vx), (j, vy)] := by simp [hx, hy]
 exact wpList_build hg t _ ho (by rw [e, hf]; rfl) (by rw [e, hf]; exact h)
theorem rd_built (s : ByteArray) : Tryz.prog.built 104 [(0, .string s), (2, .agg kindsA)] = some (rdA s) := by kernel_rfl
structure RdA (w : World) (s : ByteArray) : Prop where
 rd : Rd (w.alloc (.cells (rdA s) 104)) w.heap.size s 0 (.slice none 0 0) (.slice none 0 0)
theorem RdA.on (w : World) (s : ByteArray) : RdA w s := by
 have hb : (w.alloc (.cells (rdA s) 104)).heap[w.heap.size]? = some (.cells (rdA s) 104 (0, 0)) := heap_alloc_new w _
 have hc : ∀ i, (w.alloc (.cells (rdA s) 104)).cell? ⟨w.heap.size, i, none⟩ = (rdA s)[i]? := fun i => cell_of_row _ _ _ _ _ _ hb
 have hk : kindsA.toList = (List.range 64).map fun i => Value.int .i64 (kindN i) := rfl
 have hl : kindsA.toList.length = 64 := by rw [hk]; simp
 have hr : ∀ i, (rdA s)[i + 1 + 1]? = (kindsA.toList ++ [.slice none 0 0, .slice none 0 0])[i]? := fun i => by unfold rdA; rw [List.getElem?_toArray, List.getElem?_cons_succ, List.getElem?_cons_succ]
 refine ⟨⟨⟨_, hb⟩, (hc 0).trans rfl, (hc 1).trans rfl, fun i hi => (hc _).trans ?_, (hc 66).trans ?_, (hc 67).trans ?_⟩⟩
 · rw [show 2 + i = i + 1 + 1 by omega, hr, List.getElem?_append_left (by omega), hk, List.getElem?_map, List.getElem?_range hi]; rfl
 · rw [hr, List.getElem?_append_right (by omega), hl]; rfl
 · rw [hr, List.getElem?_append_right (by omega), hl]; rfl
set_option maxRecDepth 100000 in
theorem plines_any (s : ByteArray) (hs : s.size ≤ 20000) (w : World) : Calls Tryz.prog 23 #[.string s] w (LinesOut (linesP (toL s)) w) := by
 by_cases hbig : 16384 < s.size
 · have hq : (16384 : Int) < (s.size : Int) := by omega
   rw [show linesP (toL s) = none by unfold linesP; rw [toL_size, if_pos hbig]]
   clear hbig
   go_enter Tryz.func23, Tryz.ntmps23
   go_wp2_with fail
   go_ret2
   exact ⟨rfl, Below.refl _ _⟩
 · have hq : ¬ (16384 : Int) < (s.size : Int) := by omega
   rw [show linesP (toL s) = outR (toL s) [] [] by unfold linesP; rw [toL_size, if_neg hbig]]
   clear hbig
   go_enter Tryz.func23, Tryz.ntmps23
   go_wp2_with (first
    | (go_at_call 54; refine (kinds_any _).mono ?_; rintro e w1 ⟨rfl, hb1⟩)
    | (refine wpList_build2 rfl 104 0 2 (.tmp 8) (.tmp 9) (by rfl) (.string s) (.agg kindsA) (by rfl) (by rfl) (rdA s) (rd_built s) ?_; have d1 := (RdA.on w1 s).rd; have hlo1 := hb1.size; have hbl := Lib.hid (hb1.trans ((Below.refl _ _).alloc hlo1 (.cells (rdA s) 104)));  have HR := Lib.hid d1; clear d1)
    | (go_at_call 55; refine (run_any (lo := w.heap.size) HR.out hlo1 (by rw [World.size_alloc]; omega) hs).mono ?_; rintro e w2 ⟨p, ls, rows, rfl, hrd, hown, hrows, hbel⟩; obtain ⟨ob, HOB⟩ : ∃ ob, Hid ((outR (toL s) [] []).isSome = ob) := ⟨_, Lib.hid rfl⟩; rw [HOB.out]; have HRD := Lib.hid hrd; have HOW := Lib.hid hown; have HRW := Lib.hid hrows; have HBL := Lib.hid hbel; have c67 := hrd.lines; clear hrd hown hrows hbel))
   · have ho : ob = false := by simpa using ‹(!ob) = true›
     go_ret2
     cases hE : outR (toL s) [] [] with
     | none => exact ⟨rfl, hbl.out.trans HBL.out⟩
     | some out => have := HOB.out; rw [hE, ho] at this; cases this
   · have ho : ob = true := by simpa using ‹(!ob) = false›
     go_ret2
     cases hE : outR (toL s) [] [] with
     | none => have := HOB.out; rw [hE, ho] at this; cases this
     | some out => exact ⟨_, rows, rfl, HOW.out, HRW.out out hE, hbl.out.trans HBL.out⟩
end Go.Proofs.YtbffebcjimhapaaGreatDoor
namespace Go.Proofs.YtbffebcjimhapaaGreatDoor
set_option linter.unusedVariables false
set_option linter.unusedSimpArgs false
open Go.ChangeShapes Go.WideShapes Go.ChangeAt Go.RowKit Go.Lib
def front (u : Nat) : List UInt8 := if u = 0 then [] else decDigits u
theorem front_step {u : Nat} (h : 1 ≤ u) : front u = front (u / 10) ++ [UInt8.ofNat (48 + u % 10)] := by
 unfold front
 rw [if_neg (by omega)]
 by_cases hs : u < 10
 · rw [if_pos (by omega), dec_small hs, show u % 10 = u by omega]; rfl
 · rw [if_neg (by omega), dec_big hs]
theorem add_lit0 (b o : Nat) : (⟨b, o, none⟩ : Addr).add 0 = ⟨b, o, none⟩ := by simp [Addr.add]
theorem str_cons (c : UInt8) (t : List UInt8) : (⟨[c].toArray⟩ : ByteArray) ++ ⟨t.toArray⟩ = ⟨(c :: t).toArray⟩ := by
 apply ByteArray.ext
 simp
theorem str_nil (t : List UInt8) : (⟨#[]⟩ : ByteArray) ++ ⟨t.toArray⟩ = ⟨t.toArray⟩ := by
 apply ByteArray.ext
 simp
theorem front_len {u : Nat} (h : u ≤ 9223372036854775808) : (front u).length ≤ 19 := by
 unfold front
 by_cases h0 : u = 0
 · rw [if_pos h0]; simp
 · rw [if_neg h0]
   obtain ⟨s1, s2, _⟩ := dec_spec u
   exact canon_len s1 (by rw [s2]; exact h)
theorem tail_len {u0 u : Nat} {t : List UInt8} (h : u0 ≤ 9223372036854775808) (hf : front u0 = front u ++ t) : t.length ≤ 19 := by
 have h1 := front_len h
 rw [hf, List.length_append] at h1
 omega
def dgc (u : Nat) : UInt8 := UInt8.ofNat (48 + u % 10)
theorem digit_cell (wr : World) (u : Nat) : (convert 130 9 (.slice (some ⟨wr.heap.size, 0, none⟩) 1 1)).run Tryz.prog (wr.alloc (.cells #[.int .u8 (48 + (u : Int) % 10)] 5)) =
 .ok (.string ⟨[dgc u].toArray⟩) (wr.alloc (.cells #[.int .u8 (48 + (u : Int) % 10)] 5)) := by
 refine run_convert_bytes_back (P := Tryz.prog) _ 130 9 5 ⟨wr.heap.size, 0, none⟩ 1 [dgc u] Tryz.underlying130 Tryz.underlying5 Tryz.underlying9 ?_
 intro j hj
 have hj0 : j = 0 := by simp at hj; omega
 subst hj0
 rw [add_lit0]
 rw [(Blk.new wr 5 #[.int .u8 (48 + (u : Int) % 10)]).cells 0]
 show some (Value.int .u8 (48 + (u : Int) % 10)) = some (Value.int .u8 ((dgc u).toNat : Int))
 unfold dgc
 rw [toNat_digit (u := u % 10) (by omega)]
 congr 2
set_option maxRecDepth 100000 in
theorem write_pos (u0 : Nat) (h1 : 1 ≤ u0) (h2 : u0 ≤ 9223372036854775807) (w : World) :
 Calls Tryz.prog 121 #[.int .i64 u0] w fun e w' => e = .returned (.string ⟨(itoa u0).toArray⟩) ∧ Below w.heap.size w w' := by
 have e0 : ((u0 : Int) == 0) = false := by simp; omega
 have q1 : (0 : Int) < u0 := by omega
 have HU := Lib.hid h2
 clear h1 h2
 go_enter Tryz.func121, Tryz.ntmps121
 go_wp2
 go_loopw [0, 4] (fun n s wr => ∃ (u : Nat) (t : List UInt8), n = .int .i64 u ∧ s = .string ⟨t.toArray⟩ ∧ u ≤ 9223372036854775807 ∧ Below w.heap.size w wr ∧ Hid (front u0 = front u ++ t)) (fun n _ _ => (intOf n).toNat)
 case atStart => exact ⟨u0, [], rfl, rfl, HU.out, Below.refl _ _, Lib.hid (by simp)⟩
 case round =>
  obtain ⟨u, t, rfl, rfl, hu, hb, hf⟩ := hrel
  have ht : t.length ≤ 19 := tail_len (by have := HU.out; omega) hf.out
  by_cases hz : u = 0
  · subst hz
    go_wp2
    go_ret
    refine ⟨?_, hb⟩
    have e := hf.out
    unfold front at e
    rw [if_neg (by omega), if_pos rfl, List.nil_append] at e
    show Ending.returned (.string (⟨#[]⟩ ++ ⟨t.toArray⟩)) = _
    rw [str_nil, itoa_pos (by omega), Int.toNat_natCast, e]
  · have e1 : ((u : Int) == 0) = false := by simp; omega
    have e2 : ((u : Int) != 0) = true := by simp; omega
    have r1 : (0 : Int) ≤ (u : Int) % 10 := by omega
    have r2 : (u : Int) % 10 < 10 := by omega
    have hcv := digit_cell wr u
    go_wp2
    go_roundw
    case rel => exact ⟨u / 10, dgc u :: t, by go_num, congrArg Value.string (str_cons _ _), by omega, hb.alloc hb.size _, Lib.hid (by rw [hf.out, front_step (by omega : 1 ≤ u), List.append_assoc]; rfl)⟩
    case measure => simp [intOf]; omega
theorem tmod_neg (u : Nat) : (-(u : Int)).tmod 10 = -((u : Int) % 10) := by rw [Int.neg_tmod, Int.tmod_eq_emod_of_nonneg (by omega)]
theorem tdiv_neg' (u : Nat) : (-(u : Int)).tdiv 10 = -((u : Int) / 10) := by rw [Int.neg_tdiv, Int.tdiv_eq_ediv_of_nonneg (by omega)]
theorem digit_zero (wr : World) (u : Nat) (h : u % 10 = 0) : (convert 130 9 (.slice (some ⟨wr.heap.size, 0, none⟩) 1 1)).run Tryz.prog (wr.alloc (.cells #[.int .u8 48] 5)) =
 .ok (.string ⟨[dgc u].toArray⟩) (wr.alloc (.cells #[.int .u8 48] 5)) := by
 have := digit_cell wr u
 rw [show (48 + (u : Int) % 10) = 48 by omega] at this
 exact this
theorem str_minus (t : List UInt8) : (⟨#[45]⟩ : ByteArray) ++ ⟨t.toArray⟩ = ⟨(45 :: t).toArray⟩ := by
 apply ByteArray.ext
 simp
set_option maxRecDepth 100000 in
theorem write_neg (u0 : Nat) (h1 : 1 ≤ u0) (h2 : u0 ≤ 9223372036854775808) (w : World) :
 Calls Tryz.prog 121 #[.int .i64 (-(u0 : Int))] w fun e w' => e = .returned (.string ⟨(itoa (-(u0 : Int))).toArray⟩) ∧ Below w.heap.size w w' := by
 have e0 : ((-(u0 : Int)) == 0) = false := by simp; omega
 have q1 : (-(u0 : Int)) < 0 := by omega
 have HU := Lib.hid h2
 have HF := Lib.hid (itoa_neg' (n := -(u0 : Int)) (by omega))
 clear h1 h2
 go_enter Tryz.func121, Tryz.ntmps121
 go_wp2
 go_loopw [0, 4] (fun n s wr => ∃ (u : Nat) (t : List UInt8), n = .int .i64 (-(u : Int)) ∧ s = .string ⟨t.toArray⟩ ∧ u ≤ 9223372036854775808 ∧ Below w.heap.size w wr ∧ Hid (front u0 = front u ++ t)) (fun n _ _ => (-(intOf n)).toNat)
 case atStart => exact ⟨u0, [], rfl, rfl, HU.out, Below.refl _ _, Lib.hid (by simp)⟩
 case round =>
  obtain ⟨u, t, rfl, rfl, hu, hb, hf⟩ := hrel
  have ht : t.length ≤ 19 := tail_len HU.out hf.out
  by_cases hz : u = 0
  · subst hz
    go_wp2
    go_ret
    refine ⟨?_, hb⟩
    have e := hf.out
    unfold front at e
    rw [if_neg (by omega), if_pos rfl, List.nil_append] at e
    show Ending.returned (.string (⟨#[45]⟩ ++ ⟨t.toArray⟩)) = _
    rw [str_minus, HF.out, show (-(u0 : Int)).natAbs = u0 by omega, e]
  · have e1 : ((-(u : Int)) == 0) = false := by simp; omega
    have e2 : ((-(u : Int)) != 0) = true := by simp; omega
    have m1 := tmod_neg u
    have m2 : wrap64 ((-(u : Int)).tdiv 10) = -((u : Int) / 10) := by rw [tdiv_neg']; unfold wrap64; omega
    have m3 : wrap64 (-((u : Int) / 10)) = -((u : Int) / 10) := by unfold wrap64; omega
    have hf' : Hid (front u0 = front (u / 10) ++ (dgc u :: t)) := Lib.hid (by rw [hf.out, front_step (by omega : 1 ≤ u), List.append_assoc]; rfl)
    by_cases hd : u % 10 = 0
    · have hcv := digit_zero wr u hd
      have m4 : (u : Int) % 10 = 0 := by omega
      rw [m4] at m1
      clear hf hd m4
      go_wp2
      go_roundw
      case rel => exact ⟨u / 10, dgc u :: t, by go_num, congrArg Value.string (str_cons _ _), by omega, hb.alloc hb.size _, hf'⟩
      case measure => simp [intOf]; omega
    · have hcv := digit_cell wr u
      have r1 : -((u : Int) % 10) < 0 := by omega
      have r2 : (u : Int) % 10 < 10 := by omega
      have r3 : (0 : Int) ≤ (u : Int) % 10 := by omega
      clear hf hd
      go_wp2
      go_roundw
      case rel => exact ⟨u / 10, dgc u :: t, by go_num, congrArg Value.string (str_cons _ _), by omega, hb.alloc hb.size _, hf'⟩
      case measure => simp [intOf]; omega
theorem write_any (n : Int) (h : In64n n) (w : World) :
 Calls Tryz.prog 121 #[.int .i64 n] w fun e w' => e = .returned (.string ⟨(itoa n).toArray⟩) ∧ Below w.heap.size w w' := by
 obtain ⟨h1, h2⟩ := h
 rcases Int.lt_trichotomy n 0 with hn | rfl | hn
 · have := write_neg n.natAbs (by omega) (by omega) w
   rw [show (-(n.natAbs : Int)) = n by omega] at this
   exact this
 · rw [show itoa 0 = [48] by rw [itoa_pos (by omega), dec_small (by decide)]; rfl]
   go_enter Tryz.func121, Tryz.ntmps121
   go_wp2
   go_ret
   exact ⟨rfl, Below.refl _ _⟩
 · have := write_pos n.toNat (by omega) (by omega) w
   rw [show (n.toNat : Int) = n by omega] at this
   exact this
/-! The reader of the reference. -/
def from_ (s : ByteArray) (a j : Nat) : List UInt8 := (pre s j).drop a
theorem from_succ (s : ByteArray) (a j : Nat) (ha : a ≤ j) (h : j < s.size) : from_ s a (j + 1) = from_ s a j ++ [s[j]] := by
 unfold from_
 rw [pre_succ s j h, List.drop_append_of_le_length (by rw [pre_len s j (by omega)]; exact ha)]
theorem from_len (s : ByteArray) (a j : Nat) (h : j ≤ s.size) : (from_ s a j).length = j - a := by unfold from_; rw [List.length_drop, pre_len s j h]
theorem from_all (s : ByteArray) (a : Nat) : from_ s a s.size = s.data.toList.drop a := by unfold from_; rw [pre_all]
theorem rdigit_step (s : ByteArray) (a j : Nat) (ha : a ≤ j) (h : j < s.size) (hs : s.size - a ≤ 19) (hd : AllDig (from_ s a j)) (h1 : 48 ≤ s[j].toNat) (h2 : s[j].toNat ≤ 57) :
 IntKind.u64.wrap (IntKind.u64.wrap (IntKind.u64.wrap (10 * (valD (from_ s a j) : Int)) + (s[j].toNat : Int)) - 48) = (valD (from_ s a (j + 1)) : Nat) := by
 have hv := valD_lt (j - a) (from_ s a j) (from_len s a j (by omega)) hd
 have hp : (10 : Nat) ^ (j - a) ≤ 10 ^ 18 := Nat.pow_le_pow_right (by omega) (by omega)
 have e1 : IntKind.u64.wrap (10 * (valD (from_ s a j) : Int)) = 10 * (valD (from_ s a j) : Int) := IntWalk.u64_in _ ⟨by omega, by omega⟩
 have e2 : IntKind.u64.wrap (10 * (valD (from_ s a j) : Int) + (s[j].toNat : Int)) = 10 * (valD (from_ s a j) : Int) + (s[j].toNat : Int) := IntWalk.u64_in _ ⟨by omega, by omega⟩
 rw [from_succ s a j ha h, valD_snoc, e1, e2, IntWalk.u64_in _ ⟨by omega, by omega⟩]
 unfold dv
 omega
def rnum (neg : Bool) (x : Nat) : Int := if neg then wrap64 (-wrap64 (x : Int)) else wrap64 (x : Int)
theorem rread_size (s : ByteArray) (h : s.size < 1 ∨ 20 < s.size) (w : World) :
 Calls Tryz.prog 140 #[.string s] w fun e w' => e = .returned (.tuple #[.int .i64 0, .int .i64 10]) ∧ Below w.heap.size w w' := by
 rcases h with h | h
 · have q : (s.size : Int) < 1 := by omega
   go_enter Tryz.func140, Tryz.ntmps140
   go_wp2
   go_ret2
   exact ⟨rfl, Below.refl _ _⟩
 · have q : (20 : Int) < s.size := by omega
   go_enter Tryz.func140, Tryz.ntmps140
   go_wp2
   go_ret2
   exact ⟨rfl, Below.refl _ _⟩
def NoOf (s : ByteArray) (a : Nat) (n er : Int) : Prop := ¬ AllDig (from_ s a s.size) → n = 0 ∧ er = 10
def YesOf (s : ByteArray) (a : Nat) (neg : Bool) (n er : Int) : Prop := AllDig (from_ s a s.size) → (itoa (rnum neg (valD (from_ s a s.size))) = s.toList → n = rnum neg (valD (from_ s a s.size)) ∧ er = 0) ∧ (itoa (rnum neg (valD (from_ s a s.size))) ≠ s.toList → n = 0 ∧ er = 10)
theorem two_eq {n er n' er' : Int} (h : n = n' ∧ er = er') : Ending.returned (.tuple #[.int .i64 n', .int .i64 er']) = .returned (.tuple #[.int .i64 n, .int .i64 er]) := by rw [h.1, h.2]
theorem not_dig {s : ByteArray} {a j : Nat} (ha : a ≤ j) (h : j < s.size) (hc : s[j].toNat < 48 ∨ 57 < s[j].toNat) : ¬ AllDig (from_ s a s.size) := fun hd => by
 have hm : s[j] ∈ from_ s a s.size := by
  rw [from_all]
  have e : s[j] = (s.data.toList.drop a)[j - a]'(by simp; omega) := by
   rw [List.getElem_drop]
   have : a + (j - a) = j := by omega
   simp only [this]; rfl
  rw [e]; exact List.getElem_mem _
 have := hd _ hm
 unfold Dig at this
 omega
theorem rnum_false (x : Nat) : rnum false x = wrap64 (x : Int) := by unfold rnum; rw [if_neg (by decide)]
theorem rnum_true (x : Nat) : rnum true x = wrap64 (-wrap64 (x : Int)) := by unfold rnum; rw [if_pos rfl]
theorem from_nil (s : ByteArray) (a : Nat) : from_ s a a = [] := by
 unfold from_ pre
 exact List.drop_eq_nil_of_le (by rw [List.length_take]; omega)
theorem wrap_in (x : Int) : In64n (wrap64 x) := by unfold In64n wrap64; omega
theorem rread_long_false (s : ByteArray) (h1 : 1 ≤ s.size) (h2 : s.size ≤ 20) (hm : ((s[0].toNat : Int) == 45) = false) (h3 : 19 < s.size - 0) (w : World) :
 Calls Tryz.prog 140 #[.string s] w fun e w' => e = .returned (.tuple #[.int .i64 0, .int .i64 10]) ∧ Below w.heap.size w w' := by
 have q1 : (1 : Int) ≤ s.size := by omega
 have q2 : (s.size : Int) ≤ 20 := by omega
 have q0 : 0 < s.size := by omega
 have q3 : (19 : Int) < (s.size : Int) - 0 := by omega
 have q4 : (19 : Int) < (s.size : Int) := by omega
 go_enter Tryz.func140, Tryz.ntmps140
 go_wp2
 go_ret2
 exact ⟨rfl, Below.refl _ _⟩
set_option maxHeartbeats 1000000 in
theorem rread_false (s : ByteArray) (n er : Int) (h1 : 1 ≤ s.size) (h2 : s.size ≤ 20) (hm : ((s[0].toNat : Int) == 45) = false) (h3 : s.size - 0 ≤ 19) (hno : NoOf s 0 n er) (hyes : YesOf s 0 false n er) (w : World) :
 Calls Tryz.prog 140 #[.string s] w fun e w' => e = .returned (.tuple #[.int .i64 n, .int .i64 er]) ∧ Below w.heap.size w w' := by
 have q1 : (1 : Int) ≤ s.size := by omega
 have q2 : (s.size : Int) ≤ 20 := by omega
 have q0 : 0 < s.size := by omega
 have q3 : (s.size : Int) - 0 ≤ 19 := by omega
 have HN := Lib.hid hno
 have HY := Lib.hid hyes
 clear hno hyes
 go_enter Tryz.func140, Tryz.ntmps140
 go_wp2
 go_loop [5, 6] (fun x i => ∃ j : Nat, 0 ≤ j ∧ j ≤ s.size ∧ i = .int .i64 j ∧ (∃ v : Nat, x = .int .u64 v ∧ Hid (v = valD (from_ s 0 j))) ∧ Hid (AllDig (from_ s 0 j))) (fun _ i => s.size - (intOf i).toNat)
 case atStart => exact ⟨0, by omega, by omega, rfl, ⟨0, rfl, Lib.hid (by rw [from_nil]; rfl)⟩, Lib.hid (by rw [from_nil]; intro c hc; cases hc)⟩
 case round =>
  obtain ⟨j, ha, hj, rfl, ⟨v, rfl, hv⟩, hd⟩ := hrel
  by_cases hlt : j < s.size
  · have qj : (j : Int) < s.size := by omega
    have qj0 : (0 : Int) ≤ j := by omega
    by_cases hc : 48 ≤ s[j].toNat ∧ s[j].toNat ≤ 57
    · obtain ⟨d1, d2⟩ := hc
      have d1' : (48 : Int) ≤ (s[j].toNat : Int) := by omega
      have d2' : (s[j].toNat : Int) ≤ 57 := by omega
      have HS : Hid (IntKind.u64.wrap (IntKind.u64.wrap (IntKind.u64.wrap (10 * (v : Int)) + (s[j].toNat : Int)) - 48) = (valD (from_ s 0 (j + 1)) : Nat)) := by
       have := rdigit_step s 0 j ha hlt (by omega) hd.out d1 d2
       rw [← hv.out] at this
       exact this
      have hd' : Hid (AllDig (from_ s 0 (j + 1))) := Lib.hid (by rw [from_succ s 0 j ha hlt]; exact allDig_snoc.2 ⟨hd.out, d1, d2⟩)
      clear d1 d2
      go_wp2
      go_round
      case rel => exact ⟨j + 1, by omega, by omega, by go_num, ⟨_, u64_eq HS.out, Lib.hid rfl⟩, hd'⟩
      case measure => simp [intOf]; omega
    · have hc' : s[j].toNat < 48 ∨ 57 < s[j].toNat := by omega
      have H10 := Lib.hid (HN.out (not_dig ha hlt hc'))
      clear hc
      rcases hc' with hc | hc
      · have d1' : (s[j].toNat : Int) < 48 := by omega
        go_wp2
        go_ret2
        exact ⟨two_eq H10.out, Below.refl _ _⟩
      · have d1' : (57 : Int) < (s[j].toNat : Int) := by omega
        go_wp2
        go_ret2
        exact ⟨two_eq H10.out, Below.refl _ _⟩
  · have hj' : j = s.size := by omega
    have qj : (s.size : Int) ≤ (j : Int) := by omega
    have hd0 : AllDig (from_ s 0 s.size) := by rw [← hj']; exact hd.out
    have hv0 : v = valD (from_ s 0 s.size) := by rw [← hj']; exact hv.out
    have Z := HY.out hd0
    rw [← hv0] at Z
    have Z1 := Lib.hid Z.1
    have Z2 := Lib.hid Z.2
    clear Z hj' hd0 hv0 hd hv HY HN
    have HR : Hid (In64n (rnum false v)) := by show In64n _; rw [rnum_false]; exact wrap_in _
    by_cases he : itoa (rnum false v) = s.toList
    · have H10 := Lib.hid (Z1.out he)
      have hb : (itoa (rnum false v) == s.toList) = true := by rw [he]; exact beq_self_eq_true _
      have hr : rnum false v = wrap64 (v : Int) := rnum_false v
      rw [hr] at hb HR H10
      clear he hr Z1 Z2
      go_wp2_with fail
      refine (write_any _ HR.out _).mono ?_
      rintro e w1 ⟨rfl, hb1⟩
      go_wp2_with fail
      go_ret2
      exact ⟨two_eq H10.out, hb1⟩
    · have H10 := Lib.hid (Z2.out he)
      have hb : (itoa (rnum false v) == s.toList) = false := beq_eq_false_iff_ne.2 he
      have hr : rnum false v = wrap64 (v : Int) := rnum_false v
      rw [hr] at hb HR
      clear he hr Z1 Z2
      go_wp2_with fail
      refine (write_any _ HR.out _).mono ?_
      rintro e w1 ⟨rfl, hb1⟩
      go_wp2_with fail
      go_ret2
      exact ⟨two_eq H10.out, hb1⟩
set_option maxHeartbeats 1000000 in
theorem rread_true (s : ByteArray) (n er : Int) (h1 : 1 ≤ s.size) (h2 : s.size ≤ 20) (hm : ((s[0].toNat : Int) == 45) = true) (h3 : s.size - 1 ≤ 19) (hno : NoOf s 1 n er) (hyes : YesOf s 1 true n er) (w : World) :
 Calls Tryz.prog 140 #[.string s] w fun e w' => e = .returned (.tuple #[.int .i64 n, .int .i64 er]) ∧ Below w.heap.size w w' := by
 have q1 : (1 : Int) ≤ s.size := by omega
 have q2 : (s.size : Int) ≤ 20 := by omega
 have q0 : 0 < s.size := by omega
 have q3 : (s.size : Int) - 1 ≤ 19 := by omega
 have HN := Lib.hid hno
 have HY := Lib.hid hyes
 clear hno hyes
 go_enter Tryz.func140, Tryz.ntmps140
 go_wp2
 go_loop [5, 6] (fun x i => ∃ j : Nat, 1 ≤ j ∧ j ≤ s.size ∧ i = .int .i64 j ∧ (∃ v : Nat, x = .int .u64 v ∧ Hid (v = valD (from_ s 1 j))) ∧ Hid (AllDig (from_ s 1 j))) (fun _ i => s.size - (intOf i).toNat)
 case atStart => exact ⟨1, by omega, by omega, rfl, ⟨0, rfl, Lib.hid (by rw [from_nil]; rfl)⟩, Lib.hid (by rw [from_nil]; intro c hc; cases hc)⟩
 case round =>
  obtain ⟨j, ha, hj, rfl, ⟨v, rfl, hv⟩, hd⟩ := hrel
  by_cases hlt : j < s.size
  · have qj : (j : Int) < s.size := by omega
    have qj0 : (0 : Int) ≤ j := by omega
    by_cases hc : 48 ≤ s[j].toNat ∧ s[j].toNat ≤ 57
    · obtain ⟨d1, d2⟩ := hc
      have d1' : (48 : Int) ≤ (s[j].toNat : Int) := by omega
      have d2' : (s[j].toNat : Int) ≤ 57 := by omega
      have HS : Hid (IntKind.u64.wrap (IntKind.u64.wrap (IntKind.u64.wrap (10 * (v : Int)) + (s[j].toNat : Int)) - 48) = (valD (from_ s 1 (j + 1)) : Nat)) := by
       have := rdigit_step s 1 j ha hlt (by omega) hd.out d1 d2
       rw [← hv.out] at this
       exact this
      have hd' : Hid (AllDig (from_ s 1 (j + 1))) := Lib.hid (by rw [from_succ s 1 j ha hlt]; exact allDig_snoc.2 ⟨hd.out, d1, d2⟩)
      clear d1 d2
      go_wp2
      go_round
      case rel => exact ⟨j + 1, by omega, by omega, by go_num, ⟨_, u64_eq HS.out, Lib.hid rfl⟩, hd'⟩
      case measure => simp [intOf]; omega
    · have hc' : s[j].toNat < 48 ∨ 57 < s[j].toNat := by omega
      have H10 := Lib.hid (HN.out (not_dig ha hlt hc'))
      clear hc
      rcases hc' with hc | hc
      · have d1' : (s[j].toNat : Int) < 48 := by omega
        go_wp2
        go_ret2
        exact ⟨two_eq H10.out, Below.refl _ _⟩
      · have d1' : (57 : Int) < (s[j].toNat : Int) := by omega
        go_wp2
        go_ret2
        exact ⟨two_eq H10.out, Below.refl _ _⟩
  · have hj' : j = s.size := by omega
    have qj : (s.size : Int) ≤ (j : Int) := by omega
    have hd0 : AllDig (from_ s 1 s.size) := by rw [← hj']; exact hd.out
    have hv0 : v = valD (from_ s 1 s.size) := by rw [← hj']; exact hv.out
    have Z := HY.out hd0
    rw [← hv0] at Z
    have Z1 := Lib.hid Z.1
    have Z2 := Lib.hid Z.2
    clear Z hj' hd0 hv0 hd hv HY HN
    have HR : Hid (In64n (rnum true v)) := by show In64n _; rw [rnum_true]; exact wrap_in _
    by_cases he : itoa (rnum true v) = s.toList
    · have H10 := Lib.hid (Z1.out he)
      have hb : (itoa (rnum true v) == s.toList) = true := by rw [he]; exact beq_self_eq_true _
      have hr : rnum true v = wrap64 (-wrap64 (v : Int)) := rnum_true v
      rw [hr] at hb HR H10
      clear he hr Z1 Z2
      go_wp2_with fail
      refine (write_any _ HR.out _).mono ?_
      rintro e w1 ⟨rfl, hb1⟩
      go_wp2_with fail
      go_ret2
      exact ⟨two_eq H10.out, hb1⟩
    · have H10 := Lib.hid (Z2.out he)
      have hb : (itoa (rnum true v) == s.toList) = false := beq_eq_false_iff_ne.2 he
      have hr : rnum true v = wrap64 (-wrap64 (v : Int)) := rnum_true v
      rw [hr] at hb HR
      clear he hr Z1 Z2
      go_wp2_with fail
      refine (write_any _ HR.out _).mono ?_
      rintro e w1 ⟨rfl, hb1⟩
      go_wp2_with fail
      go_ret2
      exact ⟨two_eq H10.out, hb1⟩
theorem rread_is (s : ByteArray) (n er : Int) (h : Told s.data.toList n er) (w : World) :
 Calls Tryz.prog 140 #[.string s] w fun e w' => e = .returned (.tuple #[.int .i64 n, .int .i64 er]) ∧ Below w.heap.size w w' := by
 have none_of : (∀ k, ¬ NumOf s.data.toList k) → n = 0 ∧ er = 10 := fun hn => h.unique (.inr ⟨rfl, rfl, hn⟩)
 have hl : s.data.toList.length = s.size := by simp
 have form : ∀ k, NumOf s.data.toList k → ∀ (m : Bool) (a : Nat), (m = true ∧ a = 1 ∧ s.data.toList.head? = some 45 ∨ m = false ∧ a = 0 ∧ s.data.toList.head? ≠ some 45) →
  AllDig (from_ s a s.size) ∧ s.size - a ≤ 19 ∧ 1 ≤ s.size ∧ s.size ≤ 20 ∧ k = rnum m (valD (from_ s a s.size)) := by
  intro k hk m a hm
  rw [from_all]
  rcases numOf_form hk with ⟨hc, e, hx⟩ | ⟨r, e, hc, h0, e', hx⟩
  · have hlen := canon_len hc (by omega)
    have hne : 1 ≤ s.size := by
     rcases Nat.eq_zero_or_pos s.size with h0 | h0
     · exact absurd (List.eq_nil_of_length_eq_zero (by omega)) hc.2.1
     · exact h0
    rcases hm with ⟨rfl, rfl, h5⟩ | ⟨rfl, rfl, h5⟩
    · exfalso
      have := hc.1 45 (List.mem_of_mem_head? h5)
      unfold Dig at this
      have h45 : (45 : UInt8).toNat = 45 := rfl
      omega
    · rw [List.drop_zero]
      refine ⟨hc.1, by omega, hne, by omega, ?_⟩
      rw [rnum_false, e]
      unfold wrap64; omega
  · have hlen := canon_len hc hx
    have hsz : s.size = r.length + 1 := by rw [← hl, e]; rfl
    rcases hm with ⟨rfl, rfl, h5⟩ | ⟨rfl, rfl, h5⟩
    · rw [e]
      show AllDig r ∧ _
      refine ⟨hc.1, by omega, by omega, by omega, ?_⟩
      show k = rnum true (valD r)
      rw [rnum_true, e']
      unfold wrap64; omega
    · exfalso; rw [e] at h5; exact h5 rfl
 by_cases hsz : s.size < 1 ∨ 20 < s.size
 · obtain ⟨rfl, rfl⟩ := none_of fun k hk => by
    by_cases hm : s.data.toList.head? = some 45
    · have := form k hk true 1 (.inl ⟨rfl, rfl, hm⟩); omega
    · have := form k hk false 0 (.inr ⟨rfl, rfl, hm⟩); omega
   exact rread_size s hsz w
 have h1 : 1 ≤ s.size := by omega
 have h2 : s.size ≤ 20 := by omega
 have hy : ∀ (m : Bool) (a : Nat), (m = true ∧ a = 1 ∧ s.data.toList.head? = some 45 ∨ m = false ∧ a = 0 ∧ s.data.toList.head? ≠ some 45) → YesOf s a m n er := by
  intro m a hm hd
  refine ⟨fun he => ?_, fun he => none_of fun k hk => he ?_⟩
  · rw [ByteArray.toList_eq] at he
    refine h.unique (.inl ⟨rfl, ?_, he⟩)
    cases m
    · rw [rnum_false]; exact wrap_in _
    · rw [rnum_true]; exact wrap_in _
  · rw [ByteArray.toList_eq, ← (form k hk m a hm).2.2.2.2]; exact hk.2
 by_cases hm : s.data.toList.head? = some 45
 · have hb : ((s[0].toNat : Int) == 45) = true := by
    rw [head_at h1] at hm; injection hm with hm; rw [hm]; rfl
   exact rread_true s n er h1 h2 hb (by omega) (fun hd => none_of fun k hk => hd (form k hk true 1 (.inl ⟨rfl, rfl, hm⟩)).1) (hy true 1 (.inl ⟨rfl, rfl, hm⟩)) w
 · have hb : ((s[0].toNat : Int) == 45) = false := by
    rw [beq_eq_false_iff_ne]
    intro e
    refine hm ?_
    rw [head_at h1]
    congr 1
    apply UInt8.toNat_inj.1
    show s[0].toNat = 45
    omega
   by_cases h3 : s.size - 0 ≤ 19
   · exact rread_false s n er h1 h2 hb h3 (fun hd => none_of fun k hk => hd (form k hk false 0 (.inr ⟨rfl, rfl, hm⟩)).1) (hy false 0 (.inr ⟨rfl, rfl, hm⟩)) w
   · obtain ⟨rfl, rfl⟩ := none_of fun k hk => by have := form k hk false 0 (.inr ⟨rfl, rfl, hm⟩); omega
     exact rread_long_false s h1 h2 hb (by omega) w
def smE (n er most : Int) : Int := if most < 0 ∨ 1000000 < most then 2 else if er ≠ 0 ∨ n < 0 ∨ most < n then 10 else 0
def smV (n er most : Int) : Int := if most < 0 ∨ 1000000 < most then 0 else if er ≠ 0 ∨ n < 0 ∨ most < n then 0 else n
theorem sm_arg {n er most : Int} (h : most < 0 ∨ 1000000 < most) : smV n er most = 0 ∧ smE n er most = 2 := by unfold smV smE; rw [if_pos h, if_pos h]; exact ⟨rfl, rfl⟩
theorem sm_bad {n er most : Int} (h : ¬ (most < 0 ∨ 1000000 < most)) (h' : er ≠ 0 ∨ n < 0 ∨ most < n) : smV n er most = 0 ∧ smE n er most = 10 := by unfold smV smE; rw [if_neg h, if_pos h', if_neg h, if_pos h']; exact ⟨rfl, rfl⟩
theorem sm_well {n er most : Int} (h : ¬ (most < 0 ∨ 1000000 < most)) (h' : ¬ (er ≠ 0 ∨ n < 0 ∨ most < n)) : smV n er most = n ∧ smE n er most = 0 := by unfold smV smE; rw [if_neg h, if_neg h', if_neg h, if_neg h']; exact ⟨rfl, rfl⟩
theorem small_is (s : ByteArray) (n er most : Int) (ht : Told s.data.toList n er) (w : World) :
 Calls Tryz.prog 136 #[.string s, .int .i64 most] w fun e w' => e = .returned (.tuple #[.int .i64 (smV n er most), .int .i64 (smE n er most)]) ∧ Below w.heap.size w w' := by
 have HT := Lib.hid ht
 have her : er = 0 ∨ er = 10 := by rcases ht with ⟨h, _⟩ | ⟨h, _, _⟩ <;> omega
 clear ht
 by_cases ha : most < 0 ∨ 1000000 < most
 · have H := Lib.hid (sm_arg (n := n) (er := er) ha)
   rcases ha with ha | ha
   · go_enter Tryz.func136, Tryz.ntmps136
     go_wp2
     go_ret2
     exact ⟨two_eq H.out, Below.refl _ _⟩
   · go_enter Tryz.func136, Tryz.ntmps136
     go_wp2
     go_ret2
     exact ⟨two_eq H.out, Below.refl _ _⟩
 have q1 : 0 ≤ most := by omega
 have q2 : most ≤ 1000000 := by omega
 rcases her with rfl | rfl
 · by_cases h1 : n < 0
   · have H := Lib.hid (sm_bad (er := 0) ha (.inr (.inl h1)))
     clear ha
     go_enter Tryz.func136, Tryz.ntmps136
     go_wp2_with fail
     refine (read_is s _ _ HT.out _).mono ?_
     rintro e w1 ⟨rfl, hb1⟩
     go_wp2_with fail
     go_ret2
     exact ⟨two_eq H.out, hb1⟩
   by_cases h2 : most < n
   · have H := Lib.hid (sm_bad (er := 0) ha (.inr (.inr h2)))
     clear ha
     go_enter Tryz.func136, Tryz.ntmps136
     go_wp2_with fail
     refine (read_is s _ _ HT.out _).mono ?_
     rintro e w1 ⟨rfl, hb1⟩
     go_wp2_with fail
     go_ret2
     exact ⟨two_eq H.out, hb1⟩
   have H := Lib.hid (sm_well (er := 0) (n := n) ha (by omega))
   clear ha
   go_enter Tryz.func136, Tryz.ntmps136
   go_wp2_with fail
   refine (read_is s _ _ HT.out _).mono ?_
   rintro e w1 ⟨rfl, hb1⟩
   go_wp2_with fail
   go_ret2
   exact ⟨two_eq H.out, hb1⟩
 · have H := Lib.hid (sm_bad (er := 10) (n := n) ha (.inl (by decide)))
   clear ha
   go_enter Tryz.func136, Tryz.ntmps136
   go_wp2_with fail
   refine (read_is s _ _ HT.out _).mono ?_
   rintro e w1 ⟨rfl, hb1⟩
   go_wp2_with fail
   go_ret2
   exact ⟨two_eq H.out, hb1⟩
theorem rsmall_is (s : ByteArray) (n er most : Int) (ht : Told s.data.toList n er) (w : World) :
 Calls Tryz.prog 104 #[.string s, .int .i64 most] w fun e w' => e = .returned (.tuple #[.int .i64 (smV n er most), .int .i64 (smE n er most)]) ∧ Below w.heap.size w w' := by
 have HT := Lib.hid ht
 have her : er = 0 ∨ er = 10 := by rcases ht with ⟨h, _⟩ | ⟨h, _, _⟩ <;> omega
 clear ht
 by_cases ha : most < 0 ∨ 1000000 < most
 · have H := Lib.hid (sm_arg (n := n) (er := er) ha)
   rcases ha with ha | ha
   · go_enter Tryz.func104, Tryz.ntmps104
     go_wp2
     go_ret2
     exact ⟨two_eq H.out, Below.refl _ _⟩
   · go_enter Tryz.func104, Tryz.ntmps104
     go_wp2
     go_ret2
     exact ⟨two_eq H.out, Below.refl _ _⟩
 have q1 : 0 ≤ most := by omega
 have q2 : most ≤ 1000000 := by omega
 rcases her with rfl | rfl
 · by_cases h1 : n < 0
   · have H := Lib.hid (sm_bad (er := 0) ha (.inr (.inl h1)))
     clear ha
     go_enter Tryz.func104, Tryz.ntmps104
     go_wp2_with fail
     refine (rread_is s _ _ HT.out _).mono ?_
     rintro e w1 ⟨rfl, hb1⟩
     go_wp2_with fail
     go_ret2
     exact ⟨two_eq H.out, hb1⟩
   by_cases h2 : most < n
   · have H := Lib.hid (sm_bad (er := 0) ha (.inr (.inr h2)))
     clear ha
     go_enter Tryz.func104, Tryz.ntmps104
     go_wp2_with fail
     refine (rread_is s _ _ HT.out _).mono ?_
     rintro e w1 ⟨rfl, hb1⟩
     go_wp2_with fail
     go_ret2
     exact ⟨two_eq H.out, hb1⟩
   have H := Lib.hid (sm_well (er := 0) (n := n) ha (by omega))
   clear ha
   go_enter Tryz.func104, Tryz.ntmps104
   go_wp2_with fail
   refine (rread_is s _ _ HT.out _).mono ?_
   rintro e w1 ⟨rfl, hb1⟩
   go_wp2_with fail
   go_ret2
   exact ⟨two_eq H.out, hb1⟩
 · have H := Lib.hid (sm_bad (er := 10) (n := n) ha (.inl (by decide)))
   clear ha
   go_enter Tryz.func104, Tryz.ntmps104
   go_wp2_with fail
   refine (rread_is s _ _ HT.out _).mono ?_
   rintro e w1 ⟨rfl, hb1⟩
   go_wp2_with fail
   go_ret2
   exact ⟨two_eq H.out, hb1⟩
theorem firstc_eq {s : ByteArray} {c : UInt8} (h : 1 ≤ s.size) : (s.extract 0 1).toList = [c] ↔ s.data.toList.head? = some c := by
 rw [ByteArray.toList_eq, extract_data]
 have hl : s.data.toList.length = s.size := by simp
 generalize s.data.toList = l at *
 cases l with
 | nil => simp at hl; omega
 | cons a l => simp
theorem cutc_is (s : ByteArray) (c : UInt8) (w : World) :
 Calls Tryz.prog 159 #[.string s, .string ⟨#[c]⟩] w fun e w' => e = .returned (.tuple #[.string (if s.data.toList.head? = some c then s.extract 1 s.size else s), .bool (decide (s.data.toList.head? = some c))]) ∧ w = w' := by
 by_cases h2 : s.data.toList.head? = some c
 · have h1 : 1 ≤ s.size := by
    rcases Nat.eq_zero_or_pos s.size with h0 | h0
    · have : s.data.toList = [] := List.eq_nil_of_length_eq_zero (by simpa using h0)
      rw [this] at h2; cases h2
    · exact h0
   rw [if_pos h2, decide_eq_true h2]
   have hb : ((s.extract 0 1).toList == [c]) = true := by rw [(firstc_eq h1).2 h2]; simp
   have q1 : (1 : Int) ≤ s.size := by omega
   clear h2
   go_enter Tryz.func159, Tryz.ntmps159
   go_wp2
   go_ret2
   exact ⟨rfl, rfl⟩
 · rw [if_neg h2, decide_eq_false h2]
   by_cases h0 : s.size = 0
   · have q1 : (s.size : Int) < 1 := by omega
     clear h2
     go_enter Tryz.func159, Tryz.ntmps159
     go_wp2
     go_ret2
     exact ⟨rfl, rfl⟩
   · have h1 : 1 ≤ s.size := by omega
     have hb : ((s.extract 0 1).toList == [c]) = false := beq_eq_false_iff_ne.2 fun e => h2 ((firstc_eq h1).1 e)
     have q1 : (1 : Int) ≤ s.size := by omega
     clear h2 h0
     go_enter Tryz.func159, Tryz.ntmps159
     go_wp2
     go_ret2
     exact ⟨rfl, rfl⟩
theorem byte_cell (wr : World) (c : UInt8) : (convert 130 9 (.slice (some ⟨wr.heap.size, 0, none⟩) 1 1)).run Tryz.prog (wr.alloc (.cells #[.int .u8 (c.toNat : Int)] 5)) =
 .ok (.string ⟨#[c]⟩) (wr.alloc (.cells #[.int .u8 (c.toNat : Int)] 5)) := by
 refine run_convert_bytes_back (P := Tryz.prog) _ 130 9 5 ⟨wr.heap.size, 0, none⟩ 1 [c] Tryz.underlying130 Tryz.underlying5 Tryz.underlying9 ?_
 intro j hj
 have hj0 : j = 0 := by simp at hj; omega
 subst hj0
 rw [add_lit0]
 rw [(Blk.new wr 5 #[.int .u8 (c.toNat : Int)]).cells 0]
 rfl
theorem sm_zero {n er : Int} (h : smE n er 999 ≠ 0) : smV n er 999 = 0 ∧ smE n er 999 = 10 := by
 have hq : ¬ ((999 : Int) < 0 ∨ (1000000 : Int) < 999) := by omega
 by_cases h2 : er ≠ 0 ∨ n < 0 ∨ 999 < n
 · exact sm_bad hq h2
 · exact absurd (sm_well hq h2).2 h
theorem size_of_head {s : ByteArray} {c : UInt8} (h : s.data.toList.head? = some c) : ∃ h1 : 0 < s.size, s[0]'h1 = c := by
 have h1 : 0 < s.size := by
  rcases Nat.eq_zero_or_pos s.size with h0 | h0
  · have : s.data.toList = [] := List.eq_nil_of_length_eq_zero (by simpa using h0)
    rw [this] at h; cases h
  · exact h0
 refine ⟨h1, ?_⟩
 have h2 : s.data.toList.head? = some (s[0]'h1) := by
  rw [List.head?_eq_getElem?, Array.getElem?_toList]
  exact Array.getElem?_eq_getElem h1
 rw [h2] at h
 exact Option.some.inj h
def markOf (s : Bs) (c : UInt8) (n er : Int) : Int × Int := if s.head? = some c then (smV n er 999, smE n er 999) else (0, 10)
theorem pmark_any (s : ByteArray) (c : UInt8) (n er : Int) (ht : Told (s.data.toList.drop 1) n er) (w : World) :
 Calls Tryz.prog 135 #[.string s, .int .u8 (c.toNat : Int)] w fun e w' => e = .returned (.tuple #[.int .i64 (markOf s.data.toList c n er).1, .int .i64 (markOf s.data.toList c n er).2]) ∧ Below w.heap.size w w' := by
 have HT := Lib.hid ht
 clear ht
 have hB := byte_cell
 unfold markOf
 by_cases h : s.data.toList.head? = some c
 · rw [if_pos h]
   have HH := Lib.hid h
   have HC := Lib.hid (show (if s.data.toList.head? = some c then s.extract 1 s.size else s) = s.extract 1 s.size from if_pos h)
   have HE : Hid (Told (s.extract 1 s.size).data.toList n er) := Lib.hid (by
    rw [extract_data, List.take_of_length_le (by simp)]; exact HT.out)
   clear h
   go_enter Tryz.func135, Tryz.ntmps135
   go_wp2_with (first
    | (go_at_call 159; refine (cutc_is s c _).mono ?_; rintro e w1 ⟨rfl, rfl⟩; rw [HC.out, decide_eq_true HH.out])
    | (go_at_call 136; refine (small_is _ n er 999 HE.out _).mono ?_; rintro e w1 ⟨rfl, hb1⟩))
   go_ret2
   exact ⟨rfl, ((Below.refl _ _).alloc (Nat.le_refl _) _).trans (hb1.mono (by rw [World.size_alloc]; omega))⟩
 · rw [if_neg h]
   have HH := Lib.hid h
   have HC := Lib.hid (show (if s.data.toList.head? = some c then s.extract 1 s.size else s) = s from if_neg h)
   clear h
   go_enter Tryz.func135, Tryz.ntmps135
   go_wp2_with (first
    | (go_at_call 159; refine (cutc_is s c _).mono ?_; rintro e w1 ⟨rfl, rfl⟩; rw [HC.out, decide_eq_false HH.out]))
   go_ret2
   exact ⟨rfl, (Below.refl _ _).alloc (Nat.le_refl _) _⟩
theorem rmark_any (s : ByteArray) (c : UInt8) (n er : Int) (ht : Told (s.data.toList.drop 1) n er) (w : World) :
 Calls Tryz.prog 65 #[.string s, .int .u8 (c.toNat : Int)] w fun e w' => e = .returned (.tuple #[.int .i64 (markOf s.data.toList c n er).1, .int .i64 (markOf s.data.toList c n er).2]) ∧ Below w.heap.size w w' := by
 have HT := Lib.hid ht
 clear ht
 unfold markOf
 by_cases h : s.data.toList.head? = some c
 · rw [if_pos h]
   obtain ⟨h1, h2⟩ := size_of_head h
   have h1z : (0 : Int) < s.size := by omega
   have h1y : (1 : Int) ≤ s.size := by omega
   have hne : s.toList.isEmpty = false := by rw [ByteArray.toList_eq]; cases hq : s.data.toList with
    | nil => rw [hq] at h; cases h
    | cons => rfl
   have hne2 : s.toList ≠ [] := fun e => by rw [e] at hne; cases hne
   have hq1 : (((s[0]'h1).toNat : Int) == (c.toNat : Int)) = true := by rw [h2]; simp
   have hq2 : (((s[0]'h1).toNat : Int) != (c.toNat : Int)) = false := by rw [h2]; simp
   have HE : Hid (Told (s.extract 1 s.size).data.toList n er) := Lib.hid (by
    rw [extract_data, List.take_of_length_le (by simp)]; exact HT.out)
   clear h h2
   by_cases he : smE n er 999 = 0
   · have HX := Lib.hid he
     rw [he]
     clear he
     go_enter Tryz.func65, Tryz.ntmps65
     go_wp2_with (first
      | (go_at_call 104; refine (rsmall_is _ n er 999 HE.out _).mono ?_; rintro e w1 ⟨rfl, hb1⟩; rw [HX.out]))
     go_ret2
     exact ⟨rfl, hb1⟩
   · have HX := Lib.hid (sm_zero he)
     rw [HX.out.1, HX.out.2]
     clear he
     go_enter Tryz.func65, Tryz.ntmps65
     go_wp2_with (first
      | (go_at_call 104; refine (rsmall_is _ n er 999 HE.out _).mono ?_; rintro e w1 ⟨rfl, hb1⟩; rw [HX.out.1, HX.out.2]))
     go_ret2
     exact ⟨rfl, hb1⟩
 · rw [if_neg h]
   by_cases h0 : s.size = 0
   · have hne : s.toList = [] := by rw [ByteArray.toList_eq]; exact List.eq_nil_of_length_eq_zero (by simpa using h0)
     have hne2 : s.toList.isEmpty = true := by rw [hne]; rfl
     clear h h0
     go_enter Tryz.func65, Tryz.ntmps65
     go_wp2_with fail
     go_ret2
     exact ⟨rfl, Below.refl _ _⟩
   · have h1 : 0 < s.size := by omega
     have h1z : (0 : Int) < s.size := by omega
     have hne2 : s.toList ≠ [] := fun e => by rw [ByteArray.toList_eq] at e; have := congrArg List.length e; rw [Array.length_toList] at this; exact h0 this
     have hne : s.toList.isEmpty = false := by cases hq : s.toList with
      | nil => exact absurd hq hne2
      | cons => rfl
     have h2 : s[0]'h1 ≠ c := fun e => h (by rw [← e, List.head?_eq_getElem?, Array.getElem?_toList]; exact Array.getElem?_eq_getElem h1)
     have hq1 : (((s[0]'h1).toNat : Int) == (c.toNat : Int)) = false := beq_eq_false_iff_ne.2 fun e => h2 (UInt8.toNat_inj.1 (by omega))
     have hq2 : (((s[0]'h1).toNat : Int) != (c.toNat : Int)) = true := by rw [bne, hq1]; rfl
     clear h h0 h2
     go_enter Tryz.func65, Tryz.ntmps65
     go_wp2_with fail
     go_ret2
     exact ⟨rfl, Below.refl _ _⟩
end Go.Proofs.YtbffebcjimhapaaGreatDoor
namespace Go.Proofs.YtbffebcjimhapaaGreatDoor
set_option linter.unusedVariables false
set_option linter.unusedSimpArgs false
open Go.ChangeShapes Go.WideShapes Go.ChangeAt Go.RowKit
structure Tn (g : Nat) (w w' : World) : Prop where
 os : w'.os = w.os
 tape : w'.tape = w.tape
 output : w'.output = w.output
 size : w.heap.size ≤ w'.heap.size
 block : ∀ k, k < w.heap.size → k ≠ g → w'.heap[k]? = w.heap[k]?
section
variable {g : Nat} {w w' w2 : World}
theorem Tn.of (h : Below w.heap.size w w') : Tn g w w' := ⟨h.os, h.tape, h.output, h.size, fun k hk _ => h.block k hk⟩
theorem Tn.refl (g : Nat) (w : World) : Tn g w w := Tn.of (Below.refl _ _)
theorem Tn.trans (h : Tn g w w') (h' : Tn g w' w2) : Tn g w w2 := ⟨h'.os.trans h.os, h'.tape.trans h.tape, h'.output.trans h.output, Nat.le_trans h.size h'.size, fun k hk hn => (h'.block k (Nat.lt_of_lt_of_le hk h.size) hn).trans (h.block k hk hn)⟩
theorem Tn.on (h : Tn g w w') (h' : Below w'.heap.size w' w2) : Tn g w w2 := h.trans (Tn.of h')
theorem Tn.set (w : World) (j : Nat) (u : Value) : Tn g w (w.setCell ⟨g, j, none⟩ u) := ⟨rfl, rfl, rfl, by rw [size_set]; exact Nat.le_refl _, fun k hk hn => Below.heap_setCell w _ u k hn⟩
theorem Tn.put (h : Tn g w w') (j : Nat) (u : Value) : Tn g w (w'.setCell ⟨g, j, none⟩ u) := h.trans (Tn.set w' j u)
theorem Tn.below (h : Tn g w w') {B : Nat} (hB : B ≤ w.heap.size) (hg : B ≤ g) : Below B w w' := ⟨h.os, h.tape, h.output, h.size, fun k hk => h.block k (Nat.lt_of_lt_of_le hk hB) (by omega)⟩
theorem Tn.spare (h : Tn g w w') {t : TypeId} {cs : Array Value} (hg : Blk w g t cs) : Spare t w w' := ⟨h.size, fun k cs' e fr hk hne => (h.block k (Array.getElem?_eq_some_iff.1 hk).1 (fun e' => by
 have h' : w.heap[g]? = some (.cells cs t (0, 0)) := hg
 rw [e', h'] at hk
 injection hk with hk
 injection hk with _ ht _
 exact hne ht.symm)).trans hk⟩
theorem Tn.blk (h : Tn g w w') {k : Nat} {t : TypeId} {cs : Array Value} (hb : Blk w k t cs) (hn : k ≠ g) : Blk w' k t cs := (h.block k hb.lt hn).trans hb
end
section
variable {t : TypeId} {w w' : World}
theorem TBlk.spare {g : Nat} {e : TypeId} (h : TBlk w g e) (hs : Spare t w w') (hne : e ≠ t) : TBlk w' g e := by
 obtain ⟨cur, h⟩ := h
 exact ⟨cur, hs.block _ _ _ _ h hne⟩
theorem CellsAt.spare {A : Option Addr} {size n : Nat} {f : Nat → Nat → Value} {e : TypeId} (h : CellsAt w 0 w.heap.size A size n f) (hb : 0 < n → ∃ b o, A = some ⟨b, o, none⟩ ∧ TBlk w b e) (hs : Spare t w w') (hne : e ≠ t) : CellsAt w' 0 w'.heap.size A size n f := fun hn => by
 obtain ⟨b, off, e1, l1, l2, hc⟩ := h hn
 obtain ⟨b', o', e', cur, ht⟩ := hb hn
 rw [e1] at e'
 injection e' with e'
 injection e' with e' _ _
 subst e'
 have hk : w'.heap[b]? = w.heap[b]? := (hs.block _ _ _ _ ht hne).trans ht.symm
 exact ⟨b, off, e1, l1, Nat.lt_of_lt_of_le l2 hs.size, fun i hi j hj => by rw [World.cell?_of_block hk]; exact hc i hi j hj⟩
theorem LnR.Ok.spare {r : LnR} (h : r.Ok w) (hs : Spare t w w') (hne : 9 ≠ t) : r.Ok w' := ⟨⟨h.at_.hdr, CellsAt.spare h.at_.strs h.blk hs hne⟩, fun hn => by
 obtain ⟨b, o, e, ht⟩ := h.blk hn
 exact ⟨b, o, e, ht.spare hs hne⟩⟩
end
structure LsR where
 a : Option Addr
 c : Nat
 rows : List LnR
def LsR.val (l : LsR) : Value := .slice l.a l.rows.length l.c
def LsR.data (l : LsR) : List (List Bs) := l.rows.map LnR.data
structure LsR.Ok (w : World) (l : LsR) : Prop where
 hdr : Hdr l.a l.rows.length l.c
 cells : CellsAt w 0 w.heap.size l.a 1 l.rows.length fun i _ => (l.rows.getD i default).cell
 blk : 0 < l.rows.length → ∃ b o, l.a = some ⟨b, o, none⟩ ∧ TBlk w b 51
 ok : ∀ r ∈ l.rows, r.Ok w
def up1 : Option Addr → Option Addr
 | some a => some ⟨a.block, a.off + 1, a.spot⟩
 | none => none
def LsR.rest (l : LsR) : LsR := ⟨if l.c = 1 then l.a else up1 l.a, l.c - 1, l.rows.drop 1⟩
def LnR.rest (x : LnR) : LnR := ⟨if x.c = 1 then x.a else up1 x.a, x.c - 1, x.xs.drop 1⟩
section
variable {t : TypeId} {w w' : World}
theorem LsR.Ok.spare {l : LsR} (h : l.Ok w) (hs : Spare t w w') (h1 : 9 ≠ t) (h2 : 51 ≠ t) : l.Ok w' := ⟨h.hdr, CellsAt.spare h.cells h.blk hs h2, fun hn => by
 obtain ⟨b, o, e, ht⟩ := h.blk hn
 exact ⟨b, o, e, ht.spare hs h2⟩, fun r hr => (h.ok r hr).spare hs h1⟩
theorem LsR.Ok.on {l : LsR} (h : l.Ok w) (hb : Below w.heap.size w w') : l.Ok w' := ⟨h.hdr, (CellsAt.keep h.cells hb).more (Nat.le_refl _) hb.size, fun hn => by
 obtain ⟨b, o, e, ht⟩ := h.blk hn
 exact ⟨b, o, e, ht.beneath hb⟩, fun r hr => (h.ok r hr).on hb⟩
theorem OwnLines.ls {lo : Nat} {A : Option Addr} {c : Nat} {rows : List LnR} (h : OwnLines w lo (.slice A rows.length c) rows) : LsR.Ok w ⟨A, c, rows⟩ := by
 obtain ⟨A', c', hv, hl⟩ := h.full
 injection hv with e1 _ e3
 subst e1 e3
 refine ⟨hl.hdr, hl.cells, fun hn => ?_, h.ok⟩
 rcases h.row.2 with ⟨_, h0⟩ | ⟨g, cap, cur, hv2, _, hg, _⟩
 · have : 0 < rows.length := hn
   omega
 · injection hv2 with hv2 _ _
   exact ⟨g, 0, hv2, cur, hg⟩
theorem LsR.Ok.first {l : LsR} (h : l.Ok w) (hn : 0 < l.rows.length) : ∃ b off r, l.a = some ⟨b, off, none⟩ ∧ b < w.heap.size ∧ w.cell? ⟨b, off, none⟩ = some (.slice r.a r.xs.length r.c) ∧ LnR.Ok w r ∧ l.rows = r :: l.rest.rows ∧ l.rest = ⟨if l.c = 1 then some ⟨b, off, none⟩ else some ⟨b, off + 1, none⟩, l.c - 1, l.rest.rows⟩ := by
 obtain ⟨b, off, e, h1, h2, hc⟩ := h.cells hn
 have c0 := hc 0 hn 0 (by omega)
 rw [Nat.zero_mul, Nat.add_zero] at c0
 obtain ⟨A, c, rows⟩ := l
 cases rows with
 | nil => exact absurd hn (Nat.lt_irrefl _)
 | cons r rows =>
   have e' : A = some ⟨b, off, none⟩ := e
   subst e'
   exact ⟨b, off, r, rfl, h2, c0, h.ok r (List.mem_cons_self ..), rfl, rfl⟩
theorem LnR.Ok.first {x : LnR} (h : x.Ok w) (hn : 0 < x.xs.length) : ∃ b off s, x.a = some ⟨b, off, none⟩ ∧ b < w.heap.size ∧ w.cell? ⟨b, off, none⟩ = some (.string s) ∧ x.xs = s :: x.rest.xs ∧ x.rest = ⟨if x.c = 1 then some ⟨b, off, none⟩ else some ⟨b, off + 1, none⟩, x.c - 1, x.rest.xs⟩ := by
 obtain ⟨b, off, e, h1, h2, hc⟩ := h.at_.strs hn
 have c0 := hc 0 hn 0 (by omega)
 rw [Nat.zero_mul, Nat.add_zero] at c0
 obtain ⟨A, c, xs⟩ := x
 cases xs with
 | nil => exact absurd hn (Nat.lt_irrefl _)
 | cons s xs =>
   have e' : A = some ⟨b, off, none⟩ := e
   subst e'
   exact ⟨b, off, s, rfl, h2, c0, rfl, rfl⟩
theorem LsR.Ok.rest {l : LsR} (h : l.Ok w) (hn : 0 < l.rows.length) : l.rest.Ok w := by
 obtain ⟨hd, hc, hb, hk⟩ := h
 obtain ⟨b, off, e, h1, h2, hc⟩ := hc hn
 obtain ⟨b', o', e', ht⟩ := hb hn
 rw [e] at e'
 injection e' with e'
 injection e' with e' _ _
 subst e'
 obtain ⟨A, c, rows⟩ := l
 have e' : A = some ⟨b, off, none⟩ := e
 subst e'
 have hf : rows.length ≤ c := hd.fit
 have hcap : c ≤ maxLen := hd.cap
 have hA : 0 < (rows.drop 1).length → (LsR.rest ⟨some ⟨b, off, none⟩, c, rows⟩).a = some ⟨b, off + 1, none⟩ := fun hp => by
  rw [List.length_drop] at hp
  exact if_neg (show ¬ c = 1 by omega)
 refine ⟨⟨?_, ?_, fun h => by unfold LsR.rest at h; dsimp only at h; split at h <;> cases h⟩, fun hn' => ⟨b, off + 1, hA hn', h1, h2, fun i hi j hj => ?_⟩, fun hn' => ⟨b, off + 1, hA hn', ht⟩, fun r hr => hk r (List.mem_of_mem_drop hr)⟩
 · show (rows.drop 1).length ≤ c - 1
   rw [List.length_drop]; omega
 · show c - 1 ≤ maxLen
   omega
 · have hi' : i < (rows.drop 1).length := hi
   rw [List.length_drop] at hi'
   have := hc (i + 1) (by show i + 1 < rows.length; omega) j hj
   rw [show off + (i + 1) * 1 + j = off + 1 + i * 1 + j by omega] at this
   rw [this]
   show some ((rows.getD (i + 1) default).cell) = some (((rows.drop 1).getD i default).cell)
   rw [List.getD_eq_getElem?_getD, List.getD_eq_getElem?_getD, List.getElem?_drop, Nat.add_comm 1 i]
theorem LnR.Ok.rest {x : LnR} (h : x.Ok w) (hn : 0 < x.xs.length) : x.rest.Ok w := by
 obtain ⟨⟨hd, hc⟩, hb⟩ := h
 obtain ⟨b, off, e, h1, h2, hc⟩ := hc hn
 obtain ⟨b', o', e', ht⟩ := hb hn
 rw [e] at e'
 injection e' with e'
 injection e' with e' _ _
 subst e'
 obtain ⟨A, c, xs⟩ := x
 have e' : A = some ⟨b, off, none⟩ := e
 subst e'
 have hf : xs.length ≤ c := hd.fit
 have hcap : c ≤ maxLen := hd.cap
 have hA : 0 < (xs.drop 1).length → (LnR.rest ⟨some ⟨b, off, none⟩, c, xs⟩).a = some ⟨b, off + 1, none⟩ := fun hp => by
  rw [List.length_drop] at hp
  exact if_neg (show ¬ c = 1 by omega)
 refine ⟨⟨⟨?_, ?_, fun h => by unfold LnR.rest at h; dsimp only at h; split at h <;> cases h⟩, fun hn' => ⟨b, off + 1, hA hn', h1, h2, fun i hi j hj => ?_⟩⟩, fun hn' => ⟨b, off + 1, hA hn', ht⟩⟩
 · show (xs.drop 1).length ≤ c - 1
   rw [List.length_drop]; omega
 · show c - 1 ≤ maxLen
   omega
 · have hi' : i < (xs.drop 1).length := hi
   rw [List.length_drop] at hi'
   have := hc (i + 1) (by show i + 1 < xs.length; omega) j hj
   rw [show off + (i + 1) * 1 + j = off + 1 + i * 1 + j by omega] at this
   rw [this]
   show some (Value.string (xs.getD (i + 1) ⟨#[]⟩)) = some (Value.string ((xs.drop 1).getD i ⟨#[]⟩))
   rw [List.getD_eq_getElem?_getD, List.getD_eq_getElem?_getD, List.getElem?_drop, Nat.add_comm 1 i]
end
structure Rdr (w : World) (g : Nat) (l : LsR) (x : LnR) (tv fv : Value) : Prop where
 blk : Blk w g 55 #[.slice l.a l.rows.length l.c, .slice x.a x.xs.length x.c, tv, fv]
 lines : l.Ok w
 words : x.Ok w
section
variable {g : Nat} {w w' : World} {l : LsR} {x : LnR} {tv fv : Value}
theorem Rdr.on (h : Rdr w g l x tv fv) (hb : Below w.heap.size w w') : Rdr w' g l x tv fv := ⟨h.blk.beneath hb, h.lines.on hb, h.words.on hb⟩
theorem Rdr.spare (h : Rdr w g l x tv fv) {t : TypeId} (hs : Spare t w w') (h1 : 9 ≠ t) (h2 : 51 ≠ t) (h3 : 55 ≠ t) : Rdr w' g l x tv fv := ⟨hs.block _ _ _ _ h.blk h3, h.lines.spare hs h1 h2, h.words.spare hs h1⟩
theorem Rdr.took (h : Rdr w g l x tv fv) (hn : 0 < x.xs.length) : Rdr (w.setCell ⟨g, 1, none⟩ (.slice x.rest.a x.rest.xs.length x.rest.c)) g l x.rest tv fv := by
 have hs : Spare 55 w (w.setCell ⟨g, 1, none⟩ (.slice x.rest.a x.rest.xs.length x.rest.c)) := Spare.set h.blk _
 exact ⟨h.blk.put 1 _, h.lines.spare hs (by decide) (by decide), (h.words.rest hn).spare hs (by decide)⟩
theorem Rdr.turned (h : Rdr w g l x tv fv) {r : LnR} (hr : l.rows = r :: l.rest.rows) : Rdr ((w.setCell ⟨g, 1, none⟩ (.slice r.a r.xs.length r.c)).setCell ⟨g, 0, none⟩ (.slice l.rest.a l.rest.rows.length l.rest.c)) g l.rest r tv fv := by
 have hs : Spare 55 w (w.setCell ⟨g, 1, none⟩ (.slice r.a r.xs.length r.c)) := Spare.set h.blk _
 have h1 := h.blk.put 1 (.slice r.a r.xs.length r.c)
 have hs2 : Spare 55 _ ((w.setCell ⟨g, 1, none⟩ (.slice r.a r.xs.length r.c)).setCell ⟨g, 0, none⟩ (.slice l.rest.a l.rest.rows.length l.rest.c)) := Spare.set h1 _
 have hs3 := hs.trans hs2
 have hn : 0 < l.rows.length := by rw [hr]; exact Nat.succ_pos _
 exact ⟨h1.put 0 _, (h.lines.rest hn).spare hs3 (by decide) (by decide), (h.lines.ok r (by rw [hr]; exact List.mem_cons_self ..)).spare hs3 (by decide)⟩
theorem Rdr.types (h : Rdr w g l x tv fv) (u : Value) : Rdr (w.setCell ⟨g, 2, none⟩ u) g l x u fv := by
 have hs : Spare 55 w (w.setCell ⟨g, 2, none⟩ u) := Spare.set h.blk _
 exact ⟨h.blk.put 2 _, h.lines.spare hs (by decide) (by decide), h.words.spare hs (by decide)⟩
theorem Rdr.funs (h : Rdr w g l x tv fv) (u : Value) : Rdr (w.setCell ⟨g, 3, none⟩ u) g l x tv u := by
 have hs : Spare 55 w (w.setCell ⟨g, 3, none⟩ u) := Spare.set h.blk _
 exact ⟨h.blk.put 3 _, h.lines.spare hs (by decide) (by decide), h.words.spare hs (by decide)⟩
end
@[reducible] def giveUp : Ending := .panicked [{ v := .iface 49 (.agg #[]), recovered := false }]
def FullW (x : LnR) : Prop := ∀ s ∈ x.xs, 0 < s.size
def FullL (l : LsR) : Prop := ∀ r ∈ l.rows, 0 < r.xs.length ∧ FullW r
end Go.Proofs.YtbffebcjimhapaaGreatDoor
