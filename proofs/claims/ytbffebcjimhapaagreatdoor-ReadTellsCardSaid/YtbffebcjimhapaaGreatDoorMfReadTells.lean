/-
  The walk of the statement ReadTells: for every text it returns true.
-/
import Derived.Test.YtbffebcjimhapaaGreatDoorMg39
import Derived.Test.YtbffebcjimhapaaGreatDoorMfRfRead
namespace Go.Proofs.YtbffebcjimhapaaGreatDoor
set_option linter.unusedVariables false
set_option linter.unusedSimpArgs false
open Go.ChangeShapes Go.WideShapes Go.ChangeAt Go.RowKit

set_option maxRecDepth 100000 in
set_option maxHeartbeats 3200000 in
theorem walk_ReadTells (s : ByteArray) (w : World) (w0 : s.size ≤ maxLen) (htab : TabW w) :
    Calls Tryz.prog 3 #[.string s] w fun e w' => e = .returned (.bool true) ∧ Below w.heap.size w w' := by
 have HT := Lib.hid htab
 have hmx : s.size ≤ 9223372036854775807 := w0
 clear w0 htab
 by_cases h17 : 17000 < s.size
 · have q1 : (17000 : Int) < s.size := by omega
   have q2 : (3000 : Int) < s.size := by omega
   have q3 : ¬ (s.size : Int) ≤ 16384 := by omega
   go_enter Tryz.func3, Tryz.ntmps3
   go_wp2_with fail
   go_ret
   exact ⟨rfl, Below.refl _ _⟩
 have q1 : ¬ (17000 : Int) < s.size := by omega
 obtain ⟨z, hz⟩ : ∃ z, readA (toL s) = z := ⟨_, rfl⟩
 have HR := Lib.hid (hz ▸ pread_any s (by omega) w HT.out)
 have HF := Lib.hid (fun W => hz ▸ rfread_any s (by omega) W)
 obtain ⟨p, er⟩ := z
 unfold ReadOut at HR
 unfold RfRead at HF
 dsimp only at HR HF
 clear hz h17
 by_cases h3 : 3000 < s.size
 · have q2 : (3000 : Int) < s.size := by omega
   by_cases h16 : s.size ≤ 16384
   · have q3 : (s.size : Int) ≤ 16384 := by omega
     clear h3 h16
     go_enter Tryz.func3, Tryz.ntmps3
     go_wp2_with fail
     go_ret
     exact ⟨rfl, Below.refl _ _⟩
   · have q3 : ¬ (s.size : Int) ≤ 16384 := by omega
     clear h3 h16
     go_enter Tryz.func3, Tryz.ntmps3
     go_wp2_with (go_at_call 10; refine HR.out.mono ?_; rintro e w2 ⟨r, rfl, hown, hdat, hb⟩; obtain ⟨ta, tc, types, fa, fc, funs⟩ := r; have HB2 := Lib.hid hb; have HD := Lib.hid hdat; have HO := Lib.hid hown; clear hb hown hdat; unfold PrR.val; dsimp only; refine pause ?_)
     have HN2 := Lib.hid (Blk.new w2 25 #[.slice ta types.length tc, .slice fa funs.length fc])
     have HB3 := Lib.hid (HB2.out.alloc HB2.out.size (.cells #[.slice ta types.length tc, .slice fa funs.length fc] 25))
     have HO3 := Lib.hid (HO.out.keepOn (w' := w2.alloc (.cells #[.slice ta types.length tc, .slice fa funs.length fc] 25)) ((Below.refl _ _).alloc (Nat.le_refl _) _))
     clear HO
     refine resume ?_
     go_wp2_with (go_at_call 11; refine (HF.out _).mono ?_; rintro e w4 ⟨r, rfl, hin, hdat, hb⟩; obtain ⟨ta2, tc2, types2, fa2, fc2, funs2⟩ := r; have HB4 := Lib.hid (HB3.out.trans (hb.mono HB3.out.size)); have HD2 := Lib.hid hdat; have HI4 := Lib.hid hin; have HN4 := Lib.hid (HN2.out.beneath hb); have HO4 := Lib.hid (HO3.out.keepOn hb); clear hb hin hdat; unfold PrR.val; dsimp only; refine pause ?_)
     have HN5 := Lib.hid (HN4.out.alloc (.cells #[.slice ta2 types2.length tc2, .slice fa2 funs2.length fc2] 25))
     have HB5 := Lib.hid (HB4.out.alloc HB4.out.size (.cells #[.slice ta2 types2.length tc2, .slice fa2 funs2.length fc2] 25))
     have HI5 := Lib.hid (HI4.out.on (w' := w4.alloc (.cells #[.slice ta2 types2.length tc2, .slice fa2 funs2.length fc2] 25)) ((Below.refl _ _).alloc (Nat.le_refl _) _))
     have HO5 := Lib.hid (HO4.out.keepOn (w' := w4.alloc (.cells #[.slice ta2 types2.length tc2, .slice fa2 funs2.length fc2] 25)) ((Below.refl _ _).alloc (Nat.le_refl _) _))
     have HSM := Lib.hid (rsame6_any HO5.out.prog.1 HI5.out)
     rw [same_data.2 (HD.out.trans HD2.out.symm)] at HSM
     unfold PrR.val at HSM
     dsimp only at HSM
     have p0 : (w4.alloc (.cells #[.slice ta2 types2.length tc2, .slice fa2 funs2.length fc2] 25)).cell? ⟨w2.heap.size, 0, none⟩ = some (.slice ta types.length tc) := HN5.out.cells 0
     have p1 : (w4.alloc (.cells #[.slice ta2 types2.length tc2, .slice fa2 funs2.length fc2] 25)).cell? ⟨w2.heap.size, 1, none⟩ = some (.slice fa funs.length fc) := HN5.out.cells 1
     refine resume ?_
     go_wp2_with (go_at_call 12; refine HSM.out.mono ?_; rintro e w6 ⟨rfl, hb⟩; have HB6 := Lib.hid (HB5.out.trans (hb.mono HB5.out.size)); clear hb)
     go_ret
     exact ⟨rfl, HB6.out⟩
 · have q2 : ¬ (3000 : Int) < s.size := by omega
   clear h3
   go_enter Tryz.func3, Tryz.ntmps3
   go_wp2_with (go_at_call 10; refine HR.out.mono ?_; rintro e w2 ⟨r, rfl, hown, hdat, hb⟩; obtain ⟨ta, tc, types, fa, fc, funs⟩ := r; have HB2 := Lib.hid hb; have HD := Lib.hid hdat; have HO := Lib.hid hown; clear hb hown hdat; unfold PrR.val; dsimp only; refine pause ?_)
   have HN2 := Lib.hid (Blk.new w2 25 #[.slice ta types.length tc, .slice fa funs.length fc])
   have HB3 := Lib.hid (HB2.out.alloc HB2.out.size (.cells #[.slice ta types.length tc, .slice fa funs.length fc] 25))
   have HO3 := Lib.hid (HO.out.keepOn (w' := w2.alloc (.cells #[.slice ta types.length tc, .slice fa funs.length fc] 25)) ((Below.refl _ _).alloc (Nat.le_refl _) _))
   clear HO
   refine resume ?_
   go_wp2_with (go_at_call 11; refine (HF.out _).mono ?_; rintro e w4 ⟨r, rfl, hin, hdat, hb⟩; obtain ⟨ta2, tc2, types2, fa2, fc2, funs2⟩ := r; have HB4 := Lib.hid (HB3.out.trans (hb.mono HB3.out.size)); have HD2 := Lib.hid hdat; have HI4 := Lib.hid hin; have HN4 := Lib.hid (HN2.out.beneath hb); have HO4 := Lib.hid (HO3.out.keepOn hb); clear hb hin hdat; unfold PrR.val; dsimp only; refine pause ?_)
   have HN5 := Lib.hid (HN4.out.alloc (.cells #[.slice ta2 types2.length tc2, .slice fa2 funs2.length fc2] 25))
   have HB5 := Lib.hid (HB4.out.alloc HB4.out.size (.cells #[.slice ta2 types2.length tc2, .slice fa2 funs2.length fc2] 25))
   have HI5 := Lib.hid (HI4.out.on (w' := w4.alloc (.cells #[.slice ta2 types2.length tc2, .slice fa2 funs2.length fc2] 25)) ((Below.refl _ _).alloc (Nat.le_refl _) _))
   have HO5 := Lib.hid (HO4.out.keepOn (w' := w4.alloc (.cells #[.slice ta2 types2.length tc2, .slice fa2 funs2.length fc2] 25)) ((Below.refl _ _).alloc (Nat.le_refl _) _))
   have HSM := Lib.hid (rsame6_any HO5.out.prog.1 HI5.out)
   rw [same_data.2 (HD.out.trans HD2.out.symm)] at HSM
   unfold PrR.val at HSM
   dsimp only at HSM
   have p0 : (w4.alloc (.cells #[.slice ta2 types2.length tc2, .slice fa2 funs2.length fc2] 25)).cell? ⟨w2.heap.size, 0, none⟩ = some (.slice ta types.length tc) := HN5.out.cells 0
   have p1 : (w4.alloc (.cells #[.slice ta2 types2.length tc2, .slice fa2 funs2.length fc2] 25)).cell? ⟨w2.heap.size, 1, none⟩ = some (.slice fa funs.length fc) := HN5.out.cells 1
   refine resume ?_
   go_wp2_with (go_at_call 12; refine HSM.out.mono ?_; rintro e w6 ⟨rfl, hb⟩; have HB6 := Lib.hid (HB5.out.trans (hb.mono HB5.out.size)); clear hb)
   go_ret
   exact ⟨rfl, HB6.out⟩
end Go.Proofs.YtbffebcjimhapaaGreatDoor
