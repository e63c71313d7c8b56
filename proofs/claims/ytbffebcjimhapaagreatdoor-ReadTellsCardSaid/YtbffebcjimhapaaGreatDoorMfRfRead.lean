/-
  The reference's reader: the program of a text, or the error.
-/
import Derived.Test.YtbffebcjimhapaaGreatDoorMg16
import Derived.Test.YtbffebcjimhapaaGreatDoorMg23
import Derived.Test.YtbffebcjimhapaaGreatDoorMg36
import Derived.Test.YtbffebcjimhapaaGreatDoorMg37
namespace Go.Proofs.YtbffebcjimhapaaGreatDoor
set_option linter.unusedVariables false
set_option linter.unusedSimpArgs false
open Go.ChangeShapes Go.WideShapes Go.ChangeAt Go.RowKit

def RfRead (o : PProg × Int) (w : World) (e : Ending) (w' : World) : Prop := ∃ r : PrR, e = .returned (.tuple #[r.val, .int .i64 o.2]) ∧ ProgIn w' r ∧ r.data = o.1 ∧ Below w.heap.size w w'
set_option maxRecDepth 100000 in
set_option maxHeartbeats 3200000 in
theorem rfread_any (s : ByteArray) (hs : s.size ≤ 20000) (w : World) : Calls Tryz.prog 11 #[.string s] w (RfRead (readA (toL s)) w) := by
 have HL := Lib.hid (fun W => rlines_any s hs W)
 have HR := Lib.hid (Blk.new w 25 #[.slice none 0 0, .slice none 0 0])
 have HB : Hid (Below w.heap.size w (w.alloc (.cells #[.slice none 0 0, .slice none 0 0] 25))) := Lib.hid ((Below.refl _ _).alloc (Nat.le_refl _) _)
 obtain ⟨z, hz⟩ : ∃ z, readA (toL s) = z := ⟨_, rfl⟩
 rw [hz]
 have HZ := Lib.hid hz
 clear hz
 cases hl : linesP (toL s) with
 | none =>
   rw [hl] at HL
   have HZ2 : Hid (z = (noProg, 4)) := Lib.hid (HZ.out.symm.trans (readA_none hl))
   clear hl
   go_enter Tryz.func11, Tryz.ntmps11
   go_wp2_with (go_at_call 26; refine (HL.out _).mono ?_; rintro e w1 ⟨rfl, hb⟩; have HB1 := Lib.hid (HB.out.trans (hb.mono HB.out.size)); have HR1 := Lib.hid (HR.out.beneath hb); clear hb; refine pause ?_)
   obtain ⟨r0_, r1_⟩ := HR1.out.two
   have rz := HR1.out.free
   refine resume ?_
   go_wp2_with fail
   have HE := Lib.hid (put_two HR1.out (.slice none 0 0) (.slice none 0 0))
   have HBE := Lib.hid (up_two HB1.out (Nat.le_refl _) (.slice none 0 0) (.slice none 0 0))
   obtain ⟨k0, k1⟩ := HE.out.two
   exact bodyPost_ret (v := .tuple #[PrR.val ⟨none, 0, [], none, 0, []⟩, .int .i64 4]) (by simp [results, Tryz.results11, go_sem, PrR.val, k0, k1]) rfl (by rw [HZ2.out]; exact ⟨noPr, rfl, (noPr_own _ 0).prog.1, rfl, HBE.out⟩)
 | some m =>
   rw [hl] at HL
   have HLM := Lib.hid hl
   clear hl
   go_enter Tryz.func11, Tryz.ntmps11
   go_wp2_with (go_at_call 26; refine (HL.out _).mono ?_; rintro e w1 ⟨v1, rows, rfl, hown, hdat, hb⟩; have HB1 := Lib.hid (HB.out.trans (hb.mono HB.out.size)); have HR1 := Lib.hid (HR.out.beneath hb); obtain ⟨A1, c1, rfl, _⟩ := hown.full; have HLS := Lib.hid hown.ls; have HD := Lib.hid hdat; clear hb hown hdat; refine pause ?_)
   have HLO : Hid (LOk ⟨A1, c1, rows⟩) := Lib.hid (lines_ok (s := toL s) (by rw [HLM.out, HD.out]))
   have HPR := Lib.hid (rfprog_any HLS.out HLO.out)
   rw [show (⟨A1, c1, rows⟩ : LsR).data = m from HD.out] at HPR
   obtain ⟨o, ho⟩ : ∃ o, programQ m = o := ⟨_, rfl⟩
   rw [ho] at HPR
   unfold RfProg at HPR
   dsimp only at HPR
   have HOQ := Lib.hid ho
   clear ho HLS
   refine resume ?_
   cases o with
   | none =>
     have HZ2 : Hid (z = (noProg, 70)) := Lib.hid (HZ.out.symm.trans (readA_bad HLM.out HOQ.out))
     dsimp only [Option.isSome] at HPR
     go_wp2_with (go_at_call 27; refine HPR.out.mono ?_; rintro e w2 ⟨hb, p, rfl, hp⟩; have HB2 := Lib.hid (HB1.out.trans (hb.mono HB1.out.size)); have HR2 := Lib.hid (HR1.out.beneath hb); obtain ⟨ta, tc, types, fa, fc, funs⟩ := p; clear hb hp; dsimp only [PrR.val]; refine pause ?_)
     have HB3 := Lib.hid (HB2.out.alloc HB2.out.size (.cells #[.slice ta types.length tc, .slice fa funs.length fc] 25))
     have HR3 := Lib.hid (HR2.out.alloc (.cells #[.slice ta types.length tc, .slice fa funs.length fc] 25))
     obtain ⟨r0_, r1_⟩ := HR3.out.two
     have rz := HR3.out.free
     refine resume ?_
     go_wp2_with fail
     have HE := Lib.hid (put_two HR3.out (.slice none 0 0) (.slice none 0 0))
     have HBE := Lib.hid (up_two HB3.out (Nat.le_refl _) (.slice none 0 0) (.slice none 0 0))
     obtain ⟨k0, k1⟩ := HE.out.two
     exact bodyPost_ret (v := .tuple #[PrR.val ⟨none, 0, [], none, 0, []⟩, .int .i64 70]) (by simp [results, Tryz.results11, go_sem, PrR.val, k0, k1]) rfl (by rw [HZ2.out]; exact ⟨noPr, rfl, (noPr_own _ 0).prog.1, rfl, HBE.out⟩)
   | some pp =>
     have HPL := Lib.hid (programQ_few (lines64 HLM.out) HOQ.out)
     have HML := Lib.hid (lines_len HLM.out)
     dsimp only [Option.isSome] at HPR
     go_wp2_with (go_at_call 27; refine HPR.out.mono ?_; rintro e w2 ⟨hb, p, rfl, hp⟩; have HB2 := Lib.hid (HB1.out.trans (hb.mono HB1.out.size)); have HR2 := Lib.hid (HR1.out.beneath hb); have HP := Lib.hid (hp pp rfl); have HLS := Lib.hid HB1.out.size; obtain ⟨ta, tc, types, fa, fc, funs⟩ := p; clear hb hp; dsimp only [PrR.val]; refine pause ?_)
     have HDP : Hid (PrR.data ⟨ta, tc, types, fa, fc, funs⟩ = pp) := Lib.hid HP.out.1
     have HB3 := Lib.hid (HB2.out.alloc HB2.out.size (.cells #[.slice ta types.length tc, .slice fa funs.length fc] 25))
     have HR3 := Lib.hid (HR2.out.alloc (.cells #[.slice ta types.length tc, .slice fa funs.length fc] 25))
     have HT3 := Lib.hid (HP.out.2.1.keep (w' := (w2.alloc (.cells #[.slice ta types.length tc, .slice fa funs.length fc] 25))) ((Below.refl _ _).alloc (Nat.le_refl _) _))
     have HF3 := Lib.hid (HP.out.2.2.keep (w' := (w2.alloc (.cells #[.slice ta types.length tc, .slice fa funs.length fc] 25))) ((Below.refl _ _).alloc (Nat.le_refl _) _))
     have HPLM : Hid (PrLim ⟨ta, tc, types, fa, fc, funs⟩) := Lib.hid ((show PLim m.length (PrR.data ⟨ta, tc, types, fa, fc, funs⟩) from HDP.out ▸ HPL.out).prog HML.out)
     obtain ⟨e0, he0⟩ : ∃ e0, checkP pp = e0 := ⟨_, rfl⟩
     have HCK := Lib.hid (rpcheck_is (sub_prog HT3.out HF3.out) HPLM.out (e0 := e0) (by rw [HDP.out]; exact he0))
     have HE0 := Lib.hid he0
     unfold PrR.val at HCK
     dsimp only at HCK HT3 HF3
     clear he0 HP
     refine resume ?_
     go_wp2_with (go_at_call 28; refine HCK.out.mono ?_; rintro e w4 ⟨rfl, hb⟩; have HB4 := Lib.hid (HB3.out.trans (hb.mono HB3.out.size)); have HR4 := Lib.hid (HR3.out.beneath hb); have HT4 := Lib.hid (HT3.out.keep hb); have HF4 := Lib.hid (HF3.out.keep hb); have HK4 := Lib.hid ((Blk.new w2 25 #[.slice ta types.length tc, .slice fa funs.length fc]).beneath hb); clear hb; refine pause ?_)
     clear HCK
     by_cases hz : e0 = 0
     · subst hz
       have HZ2 : Hid (z = (pp, 0)) := Lib.hid (HZ.out.symm.trans (readA_ok HLM.out HOQ.out HE0.out))
       obtain ⟨r0_, r1_⟩ := HR4.out.two
       have rz := HR4.out.free
       obtain ⟨p0, p1⟩ := HK4.out.two
       refine resume ?_
       go_wp2_with fail
       have HE := Lib.hid (put_two HR4.out (.slice ta types.length tc) (.slice fa funs.length fc))
       have HBE := Lib.hid (up_two HB4.out (Nat.le_refl _) (.slice ta types.length tc) (.slice fa funs.length fc))
       obtain ⟨k0, k1⟩ := HE.out.two
       exact bodyPost_ret (v := .tuple #[PrR.val ⟨ta, tc, types, fa, fc, funs⟩, .int .i64 0]) (by simp [results, Tryz.results11, go_sem, PrR.val, k0, k1]) rfl (by rw [HZ2.out]; exact ⟨⟨ta, tc, types, fa, fc, funs⟩, rfl, sub_prog (HT4.out.spare (spare_two HR4.out (.slice ta types.length tc) (.slice fa funs.length fc)) (by decide) (by decide)) (HF4.out.spare (spare_two HR4.out (.slice ta types.length tc) (.slice fa funs.length fc)) (by decide) (by decide) (by decide) (by decide)), HDP.out, HBE.out⟩)
     · have HZ2 : Hid (z = (noProg, e0)) := Lib.hid (HZ.out.symm.trans ((readA_check HLM.out HOQ.out (by rw [HE0.out]; exact hz)).trans (by rw [HE0.out])))
       have y1 : (e0 == 0) = false := by rw [beq_eq_false_iff_ne]; exact hz
       have y2 : (e0 != 0) = true := by rw [bne_iff_ne]; exact hz
       obtain ⟨r0_, r1_⟩ := HR4.out.two
       have rz := HR4.out.free
       refine resume ?_
       go_wp2_with fail
       have HE := Lib.hid (put_two HR4.out (.slice none 0 0) (.slice none 0 0))
       have HBE := Lib.hid (up_two HB4.out (Nat.le_refl _) (.slice none 0 0) (.slice none 0 0))
       obtain ⟨k0, k1⟩ := HE.out.two
       exact bodyPost_ret (v := .tuple #[PrR.val ⟨none, 0, [], none, 0, []⟩, .int .i64 e0]) (by simp [results, Tryz.results11, go_sem, PrR.val, k0, k1]) rfl (by rw [HZ2.out]; exact ⟨noPr, rfl, (noPr_own _ 0).prog.1, rfl, HBE.out⟩)
end Go.Proofs.YtbffebcjimhapaaGreatDoor
