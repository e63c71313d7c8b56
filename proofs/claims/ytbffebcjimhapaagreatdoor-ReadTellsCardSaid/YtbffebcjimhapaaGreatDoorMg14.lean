/-
  The program's reader of lines: all of its run.
-/
import Derived.Test.YtbffebcjimhapaaGreatDoorMg13
namespace Go.Proofs.YtbffebcjimhapaaGreatDoor
set_option linter.unusedVariables false
set_option linter.unusedSimpArgs false
open Go.ChangeShapes Go.WideShapes Go.ChangeAt Go.RowKit
def JR (w0 : World) (g lo : Nat) (s : ByteArray) : Nat → Nat → Act → World → Prop
 | 0, n, a, w => ∃ p m ws ls xs rows v1 v2 v3 us, n = 4 * (s.size - p) + 1 ∧ a = ⟨(.pointer (some ⟨g, 0, none⟩) :: v1 :: v2 :: v3 :: us).toArray, []⟩ ∧ us.length = 104 ∧ p ≤ s.size ∧ St w0 g lo m s p ws ls xs rows w ∧ outR (toL s) [] [] = outR ((toL s).drop p) (xs.map toL) (rows.map LnR.data)
 | 1, n, a, w => ∃ p m ws ls xs rows v1 v2 v3 us, n = (if (toL s)[p]? = some 35 then 4 * (s.size - p) else 4 * (s.size - p) + 2) ∧ a = ⟨(.pointer (some ⟨g, 0, none⟩) :: v1 :: v2 :: v3 :: us).toArray, []⟩ ∧ us.length = 104 ∧ p ≤ s.size ∧ St w0 g lo m s p ws ls xs rows w ∧ outR (toL s) [] [] = outR (((toL s).drop p).dropWhile (· != 10)) (xs.map toL) (rows.map LnR.data)
 | 2, n, a, w => ∃ f p m ws ls xs rows v1 v2 us, n = 4 * (s.size - p) + 2 ∧ a = ⟨(.pointer (some ⟨g, 0, none⟩) :: v1 :: v2 :: .int .i64 (f : Nat) :: us).toArray, []⟩ ∧ us.length = 104 ∧ f < p ∧ p ≤ s.size ∧ (∀ c ∈ ((toL s).drop f).take (p - f), isPlain c = true) ∧ xs.length ≤ f ∧ St w0 g lo m s p ws ls xs rows w ∧ outR (toL s) [] [] = outR ((toL s).drop f) (xs.map toL) (rows.map LnR.data)
 | _, _, _, _ => False
def RunOf (w0 : World) (g lo : Nat) (s : ByteArray) (e : Ending) (w' : World) : Prop :=
 ∃ p ls' rows', e = .returned (.bool (outR (toL s) [] []).isSome) ∧ Rd w' g s p (.slice none 0 0) ls' ∧ OwnLines w' lo ls' rows' ∧ (∀ out, outR (toL s) [] [] = some out → rows'.map LnR.data = out) ∧ Below lo w0 w'
theorem JR.three {w0 : World} {g lo : Nat} {s : ByteArray} (l n : Nat) (a : Act) (w : World) (h : JR w0 g lo s l n a w) : l < 3 := by
 match l, h with
 | 0, _ => decide
 | 1, _ => decide
 | 2, _ => decide
theorem out_ended {S : Bs} {ws : List Bs} {ls : List (List Bs)} (h : outR S [] [] = outR [] ws ls) : decide (ws.length ≤ 64) = (outR S [] []).isSome ∧ ∀ out, outR S [] [] = some out → ls ++ (if ws.isEmpty then [] else [ws]) = out := by
 rw [h, out_nil]
 by_cases hl : 64 < ws.length
 · rw [if_pos hl]
   exact ⟨decide_eq_false (by omega), fun out e => by cases e⟩
 · rw [if_neg hl]
   exact ⟨decide_eq_true (by omega), fun out e => Option.some.inj e⟩
theorem out_fed {S t : Bs} {ws : List Bs} {ls : List (List Bs)} (h : outR S [] [] = outR (10 :: t) ws ls) : (64 < ws.length → outR S [] [] = none) ∧ (¬ 64 < ws.length → outR S [] [] = outR t [] (ls ++ if ws.isEmpty then [] else [ws])) := by
 rw [h, out_feed]
 exact ⟨fun hl => if_pos hl, fun hl => if_neg hl⟩
set_option maxRecDepth 100000 in
set_option maxHeartbeats 1600000 in
theorem run_any {w : World} {g lo : Nat} {s : ByteArray} (hr : Rd w g s 0 (.slice none 0 0) (.slice none 0 0)) (hg : lo ≤ g) (hlo : lo ≤ w.heap.size) (hs : s.size ≤ 20000) : Calls Tryz.prog 55 #[.pointer (some ⟨g, 0, none⟩)] w (RunOf w g lo s) := by
 go_enter Tryz.func55, Tryz.ntmps55
 go_wp2_with fail
 refine wp_scope_behind (r1 := ?r1) (r2 := ?r2) (JR w g lo s) ?h0 ?h1 ?h2 JR.three ?_ ?_ ?_ ?_
 case h0 => rfl
 case h1 => exact rfl
 case h2 => exact rfl
 · intro K hK
   go_wp2_with fail
   refine hK (4 * (s.size - 0) + 1) _ _ ⟨0, lo, _, _, [], [], _, _, _, _, rfl, rfl, rfl, Nat.zero_le _, ⟨hr, OwnStrs.nil _ _, OwnLines.nil _ _, fun r h => (by cases h), Nat.le_refl _, hlo, hg, Nat.zero_le _, Nat.zero_le _, Below.refl _ _⟩, rfl⟩
 · rintro n a w1 ⟨p, m, ws, ls, xs, rows, v1, v2, v3, us, rfl, rfl, hus, hp, hst, hout⟩
   revert hus
   revert us
   refine all_104 ?_
   intro u4 u5 u6 u7 u8 u9 u10 u11 u12 u13 u14 u15 u16 u17 u18 u19 u20 u21 u22 u23 u24 u25 u26 u27 u28 u29 u30 u31 u32 u33 u34 u35 u36 u37 u38 u39 u40 u41 u42 u43 u44 u45 u46 u47 u48 u49 u50 u51 u52 u53 u54 u55 u56 u57 u58 u59 u60 u61 u62 u63 u64 u65 u66 u67 u68 u69 u70 u71 u72 u73 u74 u75 u76 u77 u78 u79 u80 u81 u82 u83 u84 u85 u86 u87 u88 u89 u90 u91 u92 u93 u94 u95 u96 u97 u98 u99 u100 u101 u102 u103 u104 u105 u106 u107
   have HS := Lib.hid hst
   have c0 := hst.rd.text
   have c1 := hst.rd.place
   have f1 := hst.rd.free 1
   have hgl := hst.rd.lt
   have HO := Lib.hid hout
   have HP := Lib.hid hp
   clear hst hout hr
   by_cases hlt : p < s.size
   · have hne : ((p : Int) == (s.size : Int)) = false := by rw [beq_eq_false_iff_ne]; omega
     have HL := Lib.hid hlt
     have hpz : (p : Int) < 20000 := by omega
     have HD := Lib.hid (drop_at s hlt)
     by_cases hb : isBlank (s[p]'hlt) = true
     · have hk : kindB (s[p]'hlt) = 1 := by unfold kindB; rw [if_pos hb]
       have HK := Lib.hid hk
       have HT := Lib.hid (HO.out.trans (by rw [HD.out, out_blank hb] : _ = outR ((toL s).drop (p + 1)) (xs.map toL) (rows.map LnR.data)))
       clear hk hb hp
       go_wp2_with fail
       go_quiet (fail)
       go_wp2_with (go_at_call 99; refine (kind_any (HS.out.drewN _).rd HL.out).mono ?_; rintro e w2 ⟨he, k, rfl⟩; rw [HK.out] at he; subst he)
       go_step3; exact (show ∃ n', n' < 4 * (s.size - p) + 1 ∧ JR w g lo s 0 n' _ _ from ⟨4 * (s.size - (p + 1)) + 1, by first | omega | (have := HL.out; omega), p + 1, _, _, _, _, _, _, _, _, _, rfl, rfl, rfl, by first | omega | (have := HL.out; omega), by (first | exact HS.out.step | exact (HS.out.drewN _).step | exact ((HS.out.drewN _).drewN _).step | exact (((HS.out.drewN _).drewN _).drewN _).step | exact HS.out.step.drewN _ | exact (HS.out.step.drewN _).drewN _), HT.out⟩)
     · by_cases h10 : s[p]'hlt = 10
       · have hk : kindB (s[p]'hlt) = 2 := by unfold kindB; rw [if_neg hb, if_pos h10]
         have HK := Lib.hid hk
         have HT := Lib.hid (out_fed (HO.out.trans (by rw [HD.out, h10] : _ = outR (10 :: (toL s).drop (p + 1)) (xs.map toL) (rows.map LnR.data))))
         have HX := Lib.hid (show xs.length ≤ 100000 by have := HS.out.xsl; omega)
         have HR := Lib.hid (show rows.length ≤ 100000 by have := HS.out.rowl; omega)
         clear hk hb hp h10
         by_cases hm : xs.length ≤ 64
         · have HM := Lib.hid hm
           go_wp2_with fail
           go_quiet (fail)
           go_wp2_with (first
            | (go_at_call 99; refine (kind_any (HS.out.drewN _).rd HL.out).mono ?_; rintro e w2 ⟨he, k, rfl⟩; rw [HK.out] at he; subst he)
            | (go_at_call 98; refine (end_any (HS.out.drewN _).rd hg ((HS.out.drewN _).words.more HS.out.lom) (HS.out.drewN _).lines HX.out HR.out).mono ?_; rintro e w2 ⟨ls', rows', rfl, hrd, hown, hrows, hlen, hbel⟩; rw [List.length_map, decide_eq_true HM.out]; have d1 := hrd.place; have g1 := hrd.free 1; have hgl2 := hrd.lt))
           have HT2 : Hid (outR (toL s) [] [] = outR ((toL s).drop (p + 1)) (([] : List ByteArray).map toL) (rows'.map LnR.data)) := Lib.hid ((HT.out.2 (by rw [List.length_map]; have := HM.out; omega)).trans (by rw [hrows]; rfl))
           go_step3
           exact (show ∃ n', n' < 4 * (s.size - p) + 1 ∧ JR w g lo s 0 n' _ _ from ⟨4 * (s.size - (p + 1)) + 1, by have := HL.out; omega, p + 1, _, _, _, [], rows', _, _, _, _, rfl, rfl, rfl, HL.out, St.ended (HS.out.drewN _) hrd hown hlen hbel, HT2.out⟩)
         · have HM := Lib.hid hm
           go_wp2_with fail
           go_quiet (fail)
           go_wp2_with (first
            | (go_at_call 99; refine (kind_any (HS.out.drewN _).rd HL.out).mono ?_; rintro e w2 ⟨he, k, rfl⟩; rw [HK.out] at he; subst he)
            | (go_at_call 98; refine (end_any (HS.out.drewN _).rd hg ((HS.out.drewN _).words.more HS.out.lom) (HS.out.drewN _).lines HX.out HR.out).mono ?_; rintro e w2 ⟨ls', rows', rfl, hrd, hown, hrows, hlen, hbel⟩; rw [List.length_map, decide_eq_false HM.out]; have d1 := hrd.place; have g1 := hrd.free 1; have hgl2 := hrd.lt))
           simp only [Jumps_ret]
           go_ret
           have hn := HT.out.1 (by rw [List.length_map]; have := HM.out; omega)
           exact ⟨p, ls', rows', by rw [hn]; rfl, hrd, hown, fun out e => (by rw [hn] at e; cases e), (HS.out.drewN _).below.trans hbel⟩
       · by_cases h35 : s[p]'hlt = 35
         · have hk : kindB (s[p]'hlt) = 3 := by unfold kindB; rw [if_neg hb, if_neg h10, if_pos h35]
           have HK := Lib.hid hk
           have HT : Hid (outR (toL s) [] [] = outR (((toL s).drop p).dropWhile (· != 10)) (xs.map toL) (rows.map LnR.data)) := Lib.hid (HO.out.trans (by rw [HD.out, h35, out_hash, List.dropWhile_cons, if_pos (by decide)]))
           have H5 : Hid ((toL s)[p]? = some 35) := Lib.hid (by rw [toL_at s hlt, h35])
           clear hk hb hp h10 h35
           go_wp2_with fail
           go_quiet (fail)
           go_wp2_with (go_at_call 99; refine (kind_any (HS.out.drewN _).rd HL.out).mono ?_; rintro e w2 ⟨he, k, rfl⟩; rw [HK.out] at he; subst he)
           go_step3
           exact (show ∃ n', n' < 4 * (s.size - p) + 1 ∧ JR w g lo s 1 n' _ _ from ⟨4 * (s.size - p), by omega, p, _, _, _, _, _, _, _, _, _, (if_pos H5.out).symm, rfl, rfl, Nat.le_of_lt HL.out, HS.out.drewN _, HT.out⟩)
         · have hk : kindB (s[p]'hlt) = 0 := by unfold kindB; rw [if_neg hb, if_neg h10, if_neg h35]
           have HK := Lib.hid hk
           have hpl : isPlain (s[p]'hlt) = true := by unfold isPlain; simp [hb, h10, h35]
           have HA : Hid (∀ c ∈ ((toL s).drop p).take (p + 1 - p), isPlain c = true) := Lib.hid (by
            rw [show p + 1 - p = 1 by omega, HD.out]
            intro c hc
            obtain rfl := List.mem_singleton.1 hc
            exact hpl)
           have hltd : decide ((p : Int) < (s.size : Int)) = true := decide_eq_true (by omega)
           clear hk hb hp h10 h35 hpl
           go_wp2_with fail
           go_quiet (fail)
           go_wp2_with (go_at_call 99; refine (kind_any (HS.out.drewN _).rd HL.out).mono ?_; rintro e w2 ⟨he, k, rfl⟩; rw [HK.out] at he; subst he)
           go_step3
           generalize hw3 : w1.drewN (nq + k) = w3
           have H3 : Hid (St w g lo m s p ws ls xs rows w3) := Lib.hid (hw3 ▸ HS.out.drewN _)
           clear c0 c1 f1 hgl hw3 HS
           have c0 := H3.out.rd.text
           have c1 := H3.out.rd.place
           have f1 := H3.out.rd.free 1
           have hgl := H3.out.rd.lt
           go_wp2_with fail
           go_quiet (first | (go_at_call 99; refine Calls.quiet_of (v := .int .i64 0) ((kind_any (H3.out.drewN _).rd HL.out).mono ?_); rintro e w2 ⟨he, k, rfl⟩; exact ⟨he.trans (by rw [HK.out]), k, rfl⟩))
           go_wp2_with fail
           go_step3
           exact (show ∃ n', n' < 4 * (s.size - p) + 1 ∧ JR w g lo s 2 n' _ _ from ⟨4 * (s.size - (p + 1)) + 2, by have := HL.out; omega, p, p + 1, _, _, _, _, _, _, _, _, rfl, rfl, rfl, Nat.lt_succ_self p, HL.out, HA.out, H3.out.xsl, by (first | exact H3.out.step | exact (H3.out.drewN _).step | exact ((H3.out.drewN _).drewN _).step | exact (((H3.out.drewN _).drewN _).drewN _).step | exact H3.out.step.drewN _ | exact (H3.out.step.drewN _).drewN _), HO.out⟩)
   · obtain rfl : p = s.size := by have := HP.out; omega
     clear hlt hp
     go_wp2_with fail
     go_quiet (fail)
     go_wp2_with (go_at_call 98; refine (end_any (HS.out.on (belowDrewN (Below.refl _ _) _)).rd hg ((HS.out.on (belowDrewN (Below.refl _ _) _)).words.more HS.out.lom) (HS.out.on (belowDrewN (Below.refl _ _) _)).lines (by have := HS.out.xsl; omega) (by have := HS.out.rowl; omega)).mono ?_; rintro e w2 ⟨ls', rows', rfl, hrd, hown, hrows, hlen, hbel⟩)
     simp only [Jumps_ret]
     go_ret
     have ho := out_ended (HO.out.trans (by rw [show (toL s).drop s.size = [] from List.drop_eq_nil_of_le (by rw [toL_size]; exact Nat.le_refl _)]))
     exact ⟨s.size, ls', rows', by rw [← ho.1, List.length_map]; rfl, hrd, hown, fun out e => hrows.trans (ho.2 out e), (belowDrewN HS.out.below _).trans hbel⟩
 · rintro n a w1 ⟨p, m, ws, ls, xs, rows, v1, v2, v3, us, rfl, rfl, hus, hp, hst, hout⟩
   revert hus
   revert us
   refine all_104 ?_
   intro u4 u5 u6 u7 u8 u9 u10 u11 u12 u13 u14 u15 u16 u17 u18 u19 u20 u21 u22 u23 u24 u25 u26 u27 u28 u29 u30 u31 u32 u33 u34 u35 u36 u37 u38 u39 u40 u41 u42 u43 u44 u45 u46 u47 u48 u49 u50 u51 u52 u53 u54 u55 u56 u57 u58 u59 u60 u61 u62 u63 u64 u65 u66 u67 u68 u69 u70 u71 u72 u73 u74 u75 u76 u77 u78 u79 u80 u81 u82 u83 u84 u85 u86 u87 u88 u89 u90 u91 u92 u93 u94 u95 u96 u97 u98 u99 u100 u101 u102 u103 u104 u105 u106 u107
   have HS := Lib.hid hst
   have c0 := hst.rd.text
   have c1 := hst.rd.place
   have f1 := hst.rd.free 1
   have hgl := hst.rd.lt
   have HO := Lib.hid hout
   have HP := Lib.hid hp
   clear hst hout hr
   by_cases hlt : p < s.size
   · have HL := Lib.hid hlt
     have hpz : (p : Int) < 20000 := by omega
     have HD := Lib.hid (drop_at s hlt)
     have hltd : decide ((p : Int) < (s.size : Int)) = true := decide_eq_true (by omega)
     by_cases h10 : s[p]'hlt = 10
     · have hk : kindB (s[p]'hlt) = 2 := by rw [h10]; rfl
       have HK := Lib.hid hk
       have H5 : Hid ((toL s)[p]? ≠ some 35) := Lib.hid (by rw [toL_at s hlt, h10]; decide)
       have HT : Hid (outR (toL s) [] [] = outR ((toL s).drop p) (xs.map toL) (rows.map LnR.data)) := Lib.hid (HO.out.trans (by rw [HD.out, h10, List.dropWhile_cons, if_neg (by decide)]))
       clear hk hp h10
       go_wp2_with fail
       go_quiet (first | (go_at_call 99; refine Calls.quiet_of (v := .int .i64 2) ((kind_any (HS.out.drewN _).rd HL.out).mono ?_); rintro e w2 ⟨he, k, rfl⟩; exact ⟨he.trans (by rw [HK.out]), k, rfl⟩))
       go_wp2_with fail
       go_step3
       exact (show ∃ n', n' < (if (toL s)[p]? = some 35 then 4 * (s.size - p) else 4 * (s.size - p) + 2) ∧ JR w g lo s 0 n' _ _ from ⟨4 * (s.size - p) + 1, by rw [if_neg H5.out]; omega, p, _, _, _, _, _, _, _, _, _, rfl, rfl, rfl, HP.out, HS.out.drewN _, HT.out⟩)
     · have hkn : (kindB (s[p]'hlt) != 2) = true := by
        rw [bne_iff_ne]
        unfold kindB
        rw [if_neg h10]
        split
        · decide
        · split <;> decide
       obtain ⟨kv, HK⟩ : ∃ kv, Hid (kindB (s[p]'hlt) = kv) := ⟨_, Lib.hid rfl⟩
       rw [HK.out] at hkn
       have hk2 : kv ≠ 2 := bne_iff_ne.1 hkn
       have hk3 : (kv == 2) = false := beq_eq_false_iff_ne.2 hk2
       have HT : Hid (outR (toL s) [] [] = outR (((toL s).drop (p + 1)).dropWhile (· != 10)) (xs.map toL) (rows.map LnR.data)) := Lib.hid (HO.out.trans (by rw [HD.out, List.dropWhile_cons, if_pos (by simpa using h10)]))
       clear hp h10
       go_wp2_with fail
       go_quiet (first | (go_at_call 99; refine Calls.quiet_of (v := .int .i64 kv) ((kind_any (HS.out.drewN _).rd HL.out).mono ?_); rintro e w2 ⟨he, k, rfl⟩; exact ⟨he.trans (by rw [HK.out]), k, rfl⟩))
       go_wp2_with fail
       go_step3
       exact (show ∃ n', n' < (if (toL s)[p]? = some 35 then 4 * (s.size - p) else 4 * (s.size - p) + 2) ∧ JR w g lo s 1 n' _ _ from ⟨if (toL s)[p + 1]? = some 35 then 4 * (s.size - (p + 1)) else 4 * (s.size - (p + 1)) + 2, by have := HL.out; split <;> split <;> omega, p + 1, _, _, _, _, _, _, _, _, _, rfl, rfl, rfl, HL.out, by (first | exact HS.out.step | exact (HS.out.drewN _).step | exact ((HS.out.drewN _).drewN _).step | exact (((HS.out.drewN _).drewN _).drewN _).step | exact HS.out.step.drewN _ | exact (HS.out.step.drewN _).drewN _), HT.out⟩)
   · obtain rfl : p = s.size := by omega
     have hltd : decide ((s.size : Int) < (s.size : Int)) = false := decide_eq_false (by omega)
     have HT : Hid (outR (toL s) [] [] = outR ((toL s).drop s.size) (xs.map toL) (rows.map LnR.data)) := Lib.hid (HO.out.trans (by rw [show (toL s).drop s.size = [] from List.drop_eq_nil_of_le (by rw [toL_size]; exact Nat.le_refl _)]; rfl))
     have H5 : Hid ((toL s)[s.size]? ≠ some 35) := Lib.hid (by rw [List.getElem?_eq_none (by rw [toL_size]; exact Nat.le_refl _)]; decide)
     clear hlt hp
     go_wp2_with fail
     go_quiet (fail)
     go_wp2_with fail
     go_step3
     exact (show ∃ n', n' < (if (toL s)[s.size]? = some 35 then 4 * (s.size - s.size) else 4 * (s.size - s.size) + 2) ∧ JR w g lo s 0 n' _ _ from ⟨4 * (s.size - s.size) + 1, by rw [if_neg H5.out]; omega, s.size, _, _, _, _, _, _, _, _, _, rfl, rfl, rfl, HP.out, HS.out.drewN _, HT.out⟩)
 · rintro n a w1 ⟨f, p, m, ws, ls, xs, rows, v1, v2, us, rfl, rfl, hus, hfp, hp, hall, hxl, hst, hout⟩
   obtain ⟨wa, wc, rfl, _, _⟩ := hst.words.full
   revert hus
   revert us
   refine all_104 ?_
   intro u4 u5 u6 u7 u8 u9 u10 u11 u12 u13 u14 u15 u16 u17 u18 u19 u20 u21 u22 u23 u24 u25 u26 u27 u28 u29 u30 u31 u32 u33 u34 u35 u36 u37 u38 u39 u40 u41 u42 u43 u44 u45 u46 u47 u48 u49 u50 u51 u52 u53 u54 u55 u56 u57 u58 u59 u60 u61 u62 u63 u64 u65 u66 u67 u68 u69 u70 u71 u72 u73 u74 u75 u76 u77 u78 u79 u80 u81 u82 u83 u84 u85 u86 u87 u88 u89 u90 u91 u92 u93 u94 u95 u96 u97 u98 u99 u100 u101 u102 u103 u104 u105 u106 u107
   have HS := Lib.hid hst
   have c0 := hst.rd.text
   have c1 := hst.rd.place
   have f1 := hst.rd.free 1
   have hgl := hst.rd.lt
   have HO := Lib.hid hout
   have HP := Lib.hid hp
   have HA := Lib.hid hall
   have HF := Lib.hid hfp
   have HX := Lib.hid hxl
   clear hst hout hr hall hxl
   by_cases hlt : p < s.size ∧ ∀ h : p < s.size, isPlain (s[p]'h) = true
   · obtain ⟨hlt, hpl⟩ := hlt
     have hpl := hpl hlt
     have HL := Lib.hid hlt
     have hpz : (p : Int) < 20000 := by omega
     have hltd : decide ((p : Int) < (s.size : Int)) = true := decide_eq_true (by omega)
     have hk : kindB (s[p]'hlt) = 0 := by
      unfold isPlain at hpl
      simp only [Bool.not_eq_true', Bool.or_eq_false_iff, beq_eq_false_iff_ne] at hpl
      unfold kindB
      rw [if_neg (by rw [hpl.1.1]; decide), if_neg hpl.1.2, if_neg hpl.2]
     have HK := Lib.hid hk
     have HA2 : Hid (∀ c ∈ ((toL s).drop f).take (p + 1 - f), isPlain c = true) := Lib.hid (by
      rw [take_on s (Nat.le_of_lt hfp) hlt]
      intro c hc
      rcases List.mem_append.1 hc with hc | hc
      · exact HA.out c hc
      · obtain rfl := List.mem_singleton.1 hc
        exact hpl)
     clear hk hpl hp hfp
     go_wp2_with fail
     go_quiet (first | (go_at_call 99; refine Calls.quiet_of (v := .int .i64 0) ((kind_any (HS.out.drewN _).rd HL.out).mono ?_); rintro e w2 ⟨he, k, rfl⟩; exact ⟨he.trans (by rw [HK.out]), k, rfl⟩))
     go_wp2_with fail
     go_step3
     exact (show ∃ n', n' < 4 * (s.size - p) + 2 ∧ JR w g lo s 2 n' _ _ from ⟨4 * (s.size - (p + 1)) + 2, by have := HL.out; omega, f, p + 1, _, _, _, _, _, _, _, _, rfl, rfl, rfl, Nat.lt_succ_of_lt HF.out, HL.out, HA2.out, HX.out, by (first | exact HS.out.step | exact (HS.out.drewN _).step | exact ((HS.out.drewN _).drewN _).step | exact (((HS.out.drewN _).drewN _).drewN _).step | exact HS.out.step.drewN _ | exact (HS.out.step.drewN _).drewN _), HO.out⟩)
   · have HW : Hid (outR (toL s) [] [] = outR ((toL s).drop p) ((xs ++ [s.extract f p]).map toL) (rows.map LnR.data)) := Lib.hid (by
      have h1 : (toL s).drop f = ((toL s).drop f).take (p - f) ++ (toL s).drop p := by
       conv => lhs; rw [← List.take_append_drop (p - f) ((toL s).drop f), List.drop_drop]
       rw [show f + (p - f) = p by omega]
      rw [HO.out, h1, out_word ?_ HA.out ?_, List.map_append]
      · show _ = outR _ (_ ++ [toL (s.extract f p)]) _
        rw [toL_extract s hp]
      · intro e
        have := congrArg List.length e
        rw [List.length_take, List.length_drop, toL_size] at this
        simp at this
        omega
      · intro c t e
        by_cases h2 : p < s.size
        · rw [drop_at s h2] at e
          obtain ⟨rfl, _⟩ := List.cons.inj e
          cases hc : isPlain (s[p]'h2) with
          | false => rfl
          | true => exact absurd ⟨h2, fun _ => hc⟩ hlt
        · rw [List.drop_eq_nil_of_le (by rw [toL_size]; omega)] at e
          cases e)
     have f66 := HS.out.rd.free 66
     have c66 := HS.out.rd.words
     have e66 : ∀ n o, ((w1.drewN n).alloc o).cell? ⟨g, 66, none⟩ = some (.slice wa xs.length wc) := fun n o => ((HS.out.drewN n).on ((Below.refl _ _).alloc (Nat.le_refl _) _)).rd.words
     have hf1 : (f : Int) ≤ (p : Int) := by omega
     have hf2 : (p : Int) ≤ (s.size : Int) := by omega
     have hxz : (xs.length : Int) ≤ 20000 := by have := HX.out; omega
     by_cases h2 : p < s.size
     · have hnp : isPlain (s[p]'h2) = false := by
        cases hc : isPlain (s[p]'h2) with
        | false => rfl
        | true => exact absurd ⟨h2, fun _ => hc⟩ hlt
       have hkn : (kindB (s[p]'h2) == 0) = false := by
        rw [beq_eq_false_iff_ne]
        unfold isPlain at hnp
        simp only [Bool.not_eq_false', Bool.or_eq_true, beq_iff_eq] at hnp
        unfold kindB
        rcases hnp with (hnp | hnp) | hnp
        · rw [if_pos hnp]; decide
        · rw [hnp]; decide
        · rw [hnp]; decide
       obtain ⟨kv, HK⟩ : ∃ kv, Hid (kindB (s[p]'h2) = kv) := ⟨_, Lib.hid rfl⟩
       rw [HK.out] at hkn
       have hk2 : kv ≠ 0 := beq_eq_false_iff_ne.1 hkn
       have HL := Lib.hid h2
       have hltd : decide ((p : Int) < (s.size : Int)) = true := decide_eq_true (by omega)
       clear hnp hlt
       go_wp2_with fail
       go_quiet (first | (go_at_call 99; refine Calls.quiet_of (v := .int .i64 kv) ((kind_any (HS.out.drewN _).rd HL.out).mono ?_); rintro e w2 ⟨he, k, rfl⟩; exact ⟨he.trans (by rw [HK.out]), k, rfl⟩))
       go_wp2_with fail
       go_region_law
        (first
          | (refine step_appT rfl (.tmp 71) (.tmp 82) rfl m _ xs (s.extract f p) (by rfl) (((HS.out.drewN (nq + 1)).on ((Below.refl _ _).alloc (Nat.le_refl _) _)).words) w1.heap.size (by rfl) (Blk.new (w1.drewN (nq + 1)) _ _) (by have := HX.out; omega) (by have := HS.out.big; rw [World.size_alloc]; show m ≤ w1.heap.size + 1; omega) ?_
             intro v' w2 hown hgr
             obtain ⟨A2, c2, hv2, _, _⟩ := hown.full
             rw [show (xs ++ [s.extract f p]).length = xs.length + 1 by simp] at hv2
             subst hv2
             have HSA := Lib.hid ((HS.out.drewN (nq + 1)).on (w' := (w1.drewN (nq + 1)).alloc (.cells #[.string (s.extract f p)] 9)) ((Below.refl _ _).alloc (Nat.le_refl _) _))
             have hRd := HSA.out.kept hgr
             have k66 := hRd.words
             have j66 := hRd.free 66
             have hgl3 := hRd.lt
             have HOW := Lib.hid hown
             have HGR := Lib.hid hgr
             clear hRd hown hgr))
       all_goals
        go_wp2_with fail
        go_step3
        exact (show ∃ n', n' < 4 * (s.size - p) + 2 ∧ JR w g lo s 0 n' _ _ from ⟨4 * (s.size - p) + 1, by omega, p, _, _, _, _, _, _, _, _, _, rfl, rfl, rfl, HP.out, HSA.out.word (by have := HX.out; have := HF.out; omega) HOW.out HGR.out, HW.out⟩)
     · obtain rfl : p = s.size := by omega
       have hltd : decide ((s.size : Int) < (s.size : Int)) = false := decide_eq_false (by omega)
       clear hlt h2
       go_wp2_with fail
       go_quiet (fail)
       go_wp2_with fail
       go_region_law
        (first
          | (refine step_appT rfl (.tmp 71) (.tmp 82) rfl m _ xs (s.extract f s.size) (by rfl) (((HS.out.drewN (nq + 1)).on ((Below.refl _ _).alloc (Nat.le_refl _) _)).words) w1.heap.size (by rfl) (Blk.new (w1.drewN (nq + 1)) _ _) (by have := HX.out; omega) (by have := HS.out.big; rw [World.size_alloc]; show m ≤ w1.heap.size + 1; omega) ?_
             intro v' w2 hown hgr
             obtain ⟨A2, c2, hv2, _, _⟩ := hown.full
             rw [show (xs ++ [s.extract f s.size]).length = xs.length + 1 by simp] at hv2
             subst hv2
             have HSA := Lib.hid ((HS.out.drewN (nq + 1)).on (w' := (w1.drewN (nq + 1)).alloc (.cells #[.string (s.extract f s.size)] 9)) ((Below.refl _ _).alloc (Nat.le_refl _) _))
             have hRd := HSA.out.kept hgr
             have k66 := hRd.words
             have j66 := hRd.free 66
             have hgl3 := hRd.lt
             have HOW := Lib.hid hown
             have HGR := Lib.hid hgr
             clear hRd hown hgr))
       all_goals
        go_wp2_with fail
        go_step3
        exact (show ∃ n', n' < 4 * (s.size - s.size) + 2 ∧ JR w g lo s 0 n' _ _ from ⟨4 * (s.size - s.size) + 1, by omega, s.size, _, _, _, _, _, _, _, _, _, rfl, rfl, rfl, HP.out, HSA.out.word (by have := HX.out; have := HF.out; omega) HOW.out HGR.out, HW.out⟩)
end Go.Proofs.YtbffebcjimhapaaGreatDoor
