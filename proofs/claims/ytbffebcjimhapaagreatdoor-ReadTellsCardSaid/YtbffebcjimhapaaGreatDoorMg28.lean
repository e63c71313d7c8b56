/-
  The reference's reader: the instruction of a line. And what stands on it: RfBlock0, RfBlock, RfFun0, RfFun.
-/
import Derived.Test.YtbffebcjimhapaaGreatDoorMg26
import Derived.Test.YtbffebcjimhapaaGreatDoorMg27
namespace Go.Proofs.YtbffebcjimhapaaGreatDoor
set_option linter.unusedVariables false
set_option linter.unusedSimpArgs false
open Go.ChangeShapes Go.WideShapes Go.ChangeAt Go.RowKit
section
variable {w : World} {x : LnR}
theorem LnR.Ok.cellK (h : x.Ok w) {b off : Nat} (ha : x.a = some ⟨b, off, none⟩) {k : Nat} (hk : k < x.xs.length) {s : ByteArray} (hs : x.xs.getD k ⟨#[]⟩ = s) : w.cell? ⟨b, off + k, none⟩ = some (.string s) := by
 obtain ⟨b', off', s', e1, hb', hcell, he⟩ := h.at_.strs.elem hk
 rw [ha] at e1
 injection e1 with e1
 injection e1 with e1 e2 _
 subst e1 e2
 rw [hcell, ← he.out, hs]
set_option maxRecDepth 100000 in
set_option maxHeartbeats 6400000 in
theorem rfins_few (hx : x.Ok w) (h64 : x.xs.length ≤ 20000) (reg : Int) {s0 : ByteArray} {t : List ByteArray} (hxs : x.xs = s0 :: t) (h3 : x.xs.length ≤ 3) : Calls Tryz.prog 143 #[.slice x.a x.xs.length x.c, .int .i64 reg] w (RfIns w (plainP (toL s0 :: t.map toL))) := by
 obtain ⟨b, off, ha, hb, hc⟩ := hx.first2b hxs
 have hcle := hx.at_.hdr.cle
 have hfit : x.xs.length ≤ x.c := hx.at_.hdr.fit
 have HC0 : Hid (w.cell? ⟨b, off, none⟩ = some (.string s0)) := Lib.hid hc
 obtain ⟨A, c, xs⟩ := x
 dsimp only at *
 subst ha
 have HRB := Lib.hid (Blk.new w 74 #[.int .u8 0, .int .i64 0, .int .i64 0, .int .i64 0, .int .i64 0, .slice none 0 0, .slice none 0 0])
 have HBN : Hid (Below w.heap.size w (w.alloc (.cells #[.int .u8 0, .int .i64 0, .int .i64 0, .int .i64 0, .int .i64 0, .slice none 0 0, .slice none 0 0] 74))) := Lib.hid ((Below.refl _ _).alloc (Nat.le_refl _) _)
 have hd0 : (w.alloc (.cells #[.int .u8 0, .int .i64 0, .int .i64 0, .int .i64 0, .int .i64 0, .slice none 0 0, .slice none 0 0] 74)).cell? ⟨b, off, none⟩ = some (.string s0) := (HBN.out.cell (p := ⟨b, off, none⟩) hb).trans HC0.out
 have hn0 : 1 ≤ xs.length := by rw [hxs]; exact Nat.succ_pos _
 have HHAS := Lib.hid (fun (op : Nat) (hop : op ≤ 255) (W : World) (hbw : Below w.heap.size w W) => rhas_cut (r := 1) hx.at_ 0 hop h64 hbw hn0)
 rw [show (xs.drop 1).map toL = t.map toL by rw [hxs]; rfl] at HHAS
 have HOP := Lib.hid (fun (W : World) => roperation_any s0 W)
 obtain ⟨op, hop⟩ : ∃ op, opP (toL s0) = op := ⟨_, rfl⟩
 rw [hop] at HOP
 have hlt : op < 23 := by rw [← hop]; exact opP_lt _
 have HK0 : Hid (plainP (toL s0 :: t.map toL) = if op ≠ 0 ∧ hasT op 5 = false then hasP op 0 (t.map toL) else none) := Lib.hid (by rw [← hop]; rfl)
 obtain ⟨K, hK⟩ : ∃ K, plainP (toL s0 :: t.map toL) = K := ⟨_, rfl⟩
 rw [hK] at HK0 ⊢
 have q3 : ¬ (3 : Int) < xs.length := by omega
 have q0 : (0 : Int) < xs.length := by omega
 have q1 : (1 : Int) ≤ xs.length := by omega
 have HHAS1 := Lib.hid (HHAS.out op (by omega))
 clear HHAS hx hK hop hc
 obtain ⟨n, hn⟩ : ∃ n, xs.length = n := ⟨_, rfl⟩
 rw [hn] at HHAS1 hcle hfit hn0 q0 q1 q3 ⊢
 clear hn hxs h3
 obtain ⟨b5, hb5⟩ : ∃ b5, hasT op 5 = b5 := ⟨_, rfl⟩
 have HAN := Lib.hid (fun (W : World) => ranswers_any op W)
 rw [hb5] at HAN HK0
 clear hb5
 go_enter Tryz.func143, Tryz.ntmps143
 go_wp2_with (go_at_call 164; refine (HOP.out _).mono ?_; rintro e w1 ⟨rfl, hb1⟩; have HR1 := Lib.hid (HRB.out.beneath hb1); have HB1 := Lib.hid (HBN.out.trans (hb1.mono HBN.out.size)); obtain ⟨z0, z1, z2, z3, z4, z5, z6⟩ := HR1.out.seven; have zz := HR1.out.free; clear hb1; refine pause ?_)
 clear hd0 HC0
 refine resume ?_
 by_cases h0 : op = 0
 · subst h0
   have HI : Hid (K = none) := Lib.hid (by rw [HK0.out, if_neg (fun h => h.1 rfl)])
   go_wp2_with fail
   have HE := Lib.hid (put_seven HR1.out (.int .u8 0) (.int .i64 0) (.int .i64 0) (.int .i64 0) (.int .i64 0) (.slice none 0 0) (.slice none 0 0))
   have HBE := Lib.hid (up_seven HB1.out (Nat.le_refl _) (.int .u8 0) (.int .i64 0) (.int .i64 0) (.int .i64 0) (.int .i64 0) (.slice none 0 0) (.slice none 0 0))
   obtain ⟨k0, k1, k2, k3, k4, k5, k6⟩ := HE.out.seven
   exact bodyPost_ret (v := .tuple #[InR.val ⟨0, 0, 0, 0, 0, none, 0, [], none, 0, []⟩, .bool false]) (by simp [results, Tryz.results143, go_sem, InR.val, k0, k1, k2, k3, k4, k5, k6]) rfl ⟨HBE.out, ⟨0, 0, 0, 0, 0, none, 0, [], none, 0, []⟩, by rw [HI.out]; rfl, by
    rw [HI.out]
    intro p hp
    cases hp⟩
 · have y1 : ((op : Int) == 0) = false := by rw [beq_eq_false_iff_ne]; omega
   have y2 : ¬ (op : Int) = 0 := by omega
   cases b5 with
   | true =>
     have HI : Hid (K = none) := Lib.hid (by rw [HK0.out, if_neg (fun h => by cases h.2)])
     clear z0 z1 z2 z3 z4 z5 z6 zz
     go_wp2_with (go_at_call 122; refine (HAN.out _).mono ?_; rintro e w2 ⟨rfl, hb2⟩; have HR2 := Lib.hid (HR1.out.beneath hb2); have HB2 := Lib.hid (HB1.out.trans (hb2.mono HB1.out.size)); obtain ⟨z0, z1, z2, z3, z4, z5, z6⟩ := HR2.out.seven; have zz := HR2.out.free; clear hb2; refine pause ?_)
     refine resume ?_
     go_wp2_with fail
     have HE := Lib.hid (put_seven HR2.out (.int .u8 0) (.int .i64 0) (.int .i64 0) (.int .i64 0) (.int .i64 0) (.slice none 0 0) (.slice none 0 0))
     have HBE := Lib.hid (up_seven HB2.out (Nat.le_refl _) (.int .u8 0) (.int .i64 0) (.int .i64 0) (.int .i64 0) (.int .i64 0) (.slice none 0 0) (.slice none 0 0))
     obtain ⟨k0, k1, k2, k3, k4, k5, k6⟩ := HE.out.seven
     exact bodyPost_ret (v := .tuple #[InR.val ⟨0, 0, 0, 0, 0, none, 0, [], none, 0, []⟩, .bool false]) (by simp [results, Tryz.results143, go_sem, InR.val, k0, k1, k2, k3, k4, k5, k6]) rfl ⟨HBE.out, ⟨0, 0, 0, 0, 0, none, 0, [], none, 0, []⟩, by rw [HI.out]; rfl, by
      rw [HI.out]
      intro p hp
      cases hp⟩
   | false =>
     have HI : Hid (K = hasP op 0 (t.map toL)) := Lib.hid (by rw [HK0.out, if_pos ⟨h0, rfl⟩])
     clear z0 z1 z2 z3 z4 z5 z6 zz
     obtain ⟨KH, hKH⟩ : ∃ KH, hasP op 0 (t.map toL) = KH := ⟨_, rfl⟩
     rw [hKH] at HHAS1 HI
     clear hKH
     obtain ⟨zb, hzb⟩ : ∃ zb, KH.isSome = zb := ⟨_, rfl⟩
     have HZ := Lib.hid hzb
     unfold RfIns at HHAS1
     rw [hzb] at HHAS1
     clear hzb
     by_cases hcc : c = 1
     · have HH2 : Hid (∀ W, Below w.heap.size w W → _) := Lib.hid (fun W hbw => by
        have h := HHAS1.out W hbw
        rw [if_pos hcc] at h
        exact h)
       clear HHAS1
       subst hcc
       obtain rfl : n = 1 := by omega
       go_wp2_with (first | (go_at_call 165; refine (HH2.out _ HB2.out).mono ?_; rintro e w3 ⟨hb3, r, rfl, hr⟩; obtain ⟨rop, rty, ra, rb, rn, raa, rac, rargs, rfa, rfc, rfrom⟩ := r; have HRR := Lib.hid hr; have hsz := HB2.out.size; have HSZ := Lib.hid hsz; have HR3 := Lib.hid (HR2.out.beneath hb3); have HB3 := Lib.hid (HB2.out.trans (hb3.mono hsz)); clear hb3 hr hsz z0 z1 z2 z3 z4 z5 z6 zz; dsimp only [InR.val]; obtain ⟨z0, z1, z2, z3, z4, z5, z6⟩ := HR3.out.seven; have zz := HR3.out.free; refine pause ?_) | (go_at_call 122; refine (HAN.out _).mono ?_; rintro e w2 ⟨rfl, hb2⟩; have HR2 := Lib.hid (HR1.out.beneath hb2); have HB2 := Lib.hid (HB1.out.trans (hb2.mono HB1.out.size)); obtain ⟨z0, z1, z2, z3, z4, z5, z6⟩ := HR2.out.seven; have zz := HR2.out.free; clear hb2))
       refine resume ?_
       go_wp2_with fail
       have HE := Lib.hid (put_seven HR3.out (.int .u8 rop) (.int .i64 rty) (.int .i64 ra) (.int .i64 rb) (.int .i64 rn) (.slice raa rargs.length rac) (.slice rfa rfrom.length rfc))
       have HBE := Lib.hid (up_seven HB3.out (Nat.le_refl _) (.int .u8 rop) (.int .i64 rty) (.int .i64 ra) (.int .i64 rb) (.int .i64 rn) (.slice raa rargs.length rac) (.slice rfa rfrom.length rfc))
       obtain ⟨k0, k1, k2, k3, k4, k5, k6⟩ := HE.out.seven
       exact bodyPost_ret (v := .tuple #[InR.val ⟨rop, rty, ra, rb, rn, raa, rac, rargs, rfa, rfc, rfrom⟩, .bool zb]) (by simp [results, Tryz.results143, go_sem, InR.val, k0, k1, k2, k3, k4, k5, k6]) rfl ⟨HBE.out, ⟨rop, rty, ra, rb, rn, raa, rac, rargs, rfa, rfc, rfrom⟩, by rw [HI.out, HZ.out], by
        rw [HI.out]
        intro p hp
        exact ⟨(HRR.out p hp).1, ((HRR.out p hp).2.more HSZ.out).spare (spare_seven HR3.out (.int .u8 rop) (.int .i64 rty) (.int .i64 ra) (.int .i64 rb) (.int .i64 rn) (.slice raa rargs.length rac) (.slice rfa rfrom.length rfc)) (by decide)⟩⟩
     · have HH2 : Hid (∀ W, Below w.heap.size w W → _) := Lib.hid (fun W hbw => by
        have h := HHAS1.out W hbw
        rw [if_neg hcc] at h
        exact h)
       clear HHAS1
       have y3 : ¬ c = 1 := hcc
       have y4 : 1 ≤ c := by omega
       have y5 : (1 : Int) ≤ c := by omega
       go_wp2_with (first | (go_at_call 165; refine (HH2.out _ HB2.out).mono ?_; rintro e w3 ⟨hb3, r, rfl, hr⟩; obtain ⟨rop, rty, ra, rb, rn, raa, rac, rargs, rfa, rfc, rfrom⟩ := r; have HRR := Lib.hid hr; have hsz := HB2.out.size; have HSZ := Lib.hid hsz; have HR3 := Lib.hid (HR2.out.beneath hb3); have HB3 := Lib.hid (HB2.out.trans (hb3.mono hsz)); clear hb3 hr hsz z0 z1 z2 z3 z4 z5 z6 zz; dsimp only [InR.val]; obtain ⟨z0, z1, z2, z3, z4, z5, z6⟩ := HR3.out.seven; have zz := HR3.out.free; refine pause ?_) | (go_at_call 122; refine (HAN.out _).mono ?_; rintro e w2 ⟨rfl, hb2⟩; have HR2 := Lib.hid (HR1.out.beneath hb2); have HB2 := Lib.hid (HB1.out.trans (hb2.mono HB1.out.size)); obtain ⟨z0, z1, z2, z3, z4, z5, z6⟩ := HR2.out.seven; have zz := HR2.out.free; clear hb2))
       refine resume ?_
       go_wp2_with fail
       have HE := Lib.hid (put_seven HR3.out (.int .u8 rop) (.int .i64 rty) (.int .i64 ra) (.int .i64 rb) (.int .i64 rn) (.slice raa rargs.length rac) (.slice rfa rfrom.length rfc))
       have HBE := Lib.hid (up_seven HB3.out (Nat.le_refl _) (.int .u8 rop) (.int .i64 rty) (.int .i64 ra) (.int .i64 rb) (.int .i64 rn) (.slice raa rargs.length rac) (.slice rfa rfrom.length rfc))
       obtain ⟨k0, k1, k2, k3, k4, k5, k6⟩ := HE.out.seven
       exact bodyPost_ret (v := .tuple #[InR.val ⟨rop, rty, ra, rb, rn, raa, rac, rargs, rfa, rfc, rfrom⟩, .bool zb]) (by simp [results, Tryz.results143, go_sem, InR.val, k0, k1, k2, k3, k4, k5, k6]) rfl ⟨HBE.out, ⟨rop, rty, ra, rb, rn, raa, rac, rargs, rfa, rfc, rfrom⟩, by rw [HI.out, HZ.out], by
        rw [HI.out]
        intro p hp
        exact ⟨(HRR.out p hp).1, ((HRR.out p hp).2.more HSZ.out).spare (spare_seven HR3.out (.int .u8 rop) (.int .i64 rty) (.int .i64 ra) (.int .i64 rb) (.int .i64 rn) (.slice raa rargs.length rac) (.slice rfa rfrom.length rfc)) (by decide)⟩⟩
set_option maxRecDepth 100000 in
set_option maxHeartbeats 6400000 in
theorem rfins_plain (hx : x.Ok w) (h64 : x.xs.length ≤ 20000) (reg : Int) {s0 s1 s2 s3 : ByteArray} {t' t : List ByteArray} (ht : t = s1 :: s2 :: s3 :: t') (hxs : x.xs = s0 :: t) (h3 : ¬ toL s2 = bEq) : Calls Tryz.prog 143 #[.slice x.a x.xs.length x.c, .int .i64 reg] w (RfIns w (plainP (toL s0 :: t.map toL))) := by
 obtain ⟨b, off, ha, hb, hc⟩ := hx.first2b hxs
 have hcle := hx.at_.hdr.cle
 have hfit : x.xs.length ≤ x.c := hx.at_.hdr.fit
 have HC0 : Hid (w.cell? ⟨b, off, none⟩ = some (.string s0)) := Lib.hid hc
 have HC2 : Hid (w.cell? ⟨b, off + 2, none⟩ = some (.string s2)) := Lib.hid (hx.cellK ha (k := 2) (by rw [hxs, ht]; exact Nat.succ_lt_succ (Nat.succ_lt_succ (Nat.succ_pos _))) (by rw [hxs, ht]; rfl))
 obtain ⟨A, c, xs⟩ := x
 dsimp only at *
 subst ha
 have HRB := Lib.hid (Blk.new w 74 #[.int .u8 0, .int .i64 0, .int .i64 0, .int .i64 0, .int .i64 0, .slice none 0 0, .slice none 0 0])
 have HBN : Hid (Below w.heap.size w (w.alloc (.cells #[.int .u8 0, .int .i64 0, .int .i64 0, .int .i64 0, .int .i64 0, .slice none 0 0, .slice none 0 0] 74))) := Lib.hid ((Below.refl _ _).alloc (Nat.le_refl _) _)
 have hd0 : (w.alloc (.cells #[.int .u8 0, .int .i64 0, .int .i64 0, .int .i64 0, .int .i64 0, .slice none 0 0, .slice none 0 0] 74)).cell? ⟨b, off, none⟩ = some (.string s0) := (HBN.out.cell (p := ⟨b, off, none⟩) hb).trans HC0.out
 have hd2 : (w.alloc (.cells #[.int .u8 0, .int .i64 0, .int .i64 0, .int .i64 0, .int .i64 0, .slice none 0 0, .slice none 0 0] 74)).cell? ⟨b, off + 2, none⟩ = some (.string s2) := (HBN.out.cell (p := ⟨b, off + 2, none⟩) hb).trans HC2.out
 have e3 : (s2.toList == [61]) = false := str_no h3
 have hn0 : 1 ≤ xs.length := by rw [hxs]; exact Nat.succ_pos _
 have HHAS := Lib.hid (fun (op : Nat) (hop : op ≤ 255) (W : World) (hbw : Below w.heap.size w W) => rhas_cut (r := 1) hx.at_ 0 hop h64 hbw hn0)
 rw [show (xs.drop 1).map toL = t.map toL by rw [hxs]; rfl] at HHAS
 have HOP := Lib.hid (fun (W : World) => roperation_any s0 W)
 obtain ⟨op, hop⟩ : ∃ op, opP (toL s0) = op := ⟨_, rfl⟩
 rw [hop] at HOP
 have hlt : op < 23 := by rw [← hop]; exact opP_lt _
 have HK0 : Hid (plainP (toL s0 :: t.map toL) = if op ≠ 0 ∧ hasT op 5 = false then hasP op 0 (t.map toL) else none) := Lib.hid (by rw [← hop]; rfl)
 obtain ⟨K, hK⟩ : ∃ K, plainP (toL s0 :: t.map toL) = K := ⟨_, rfl⟩
 rw [hK] at HK0 ⊢
 have hl4 : 4 ≤ xs.length := by rw [hxs, ht]; exact Nat.succ_le_succ (Nat.succ_le_succ (Nat.succ_le_succ (Nat.succ_le_succ (Nat.zero_le _))))
 have q3 : (3 : Int) < xs.length := by omega
 have q4 : (2 : Int) < xs.length := by omega
 have q0 : (0 : Int) < xs.length := by omega
 have q1 : (1 : Int) ≤ xs.length := by omega
 have HHAS1 := Lib.hid (HHAS.out op (by omega))
 clear HHAS hx hK hop hc
 obtain ⟨n, hn⟩ : ∃ n, xs.length = n := ⟨_, rfl⟩
 rw [hn] at HHAS1 hcle hfit hn0 q0 q1 q3 hl4 q4 ⊢
 clear hn hxs h3 ht
 obtain ⟨b5, hb5⟩ : ∃ b5, hasT op 5 = b5 := ⟨_, rfl⟩
 have HAN := Lib.hid (fun (W : World) => ranswers_any op W)
 rw [hb5] at HAN HK0
 clear hb5
 go_enter Tryz.func143, Tryz.ntmps143
 go_wp2_with (go_at_call 164; refine (HOP.out _).mono ?_; rintro e w1 ⟨rfl, hb1⟩; have HR1 := Lib.hid (HRB.out.beneath hb1); have HB1 := Lib.hid (HBN.out.trans (hb1.mono HBN.out.size)); obtain ⟨z0, z1, z2, z3, z4, z5, z6⟩ := HR1.out.seven; have zz := HR1.out.free; clear hb1; refine pause ?_)
 clear hd0 hd2 HC0 HC2
 refine resume ?_
 by_cases h0 : op = 0
 · subst h0
   have HI : Hid (K = none) := Lib.hid (by rw [HK0.out, if_neg (fun h => h.1 rfl)])
   go_wp2_with fail
   have HE := Lib.hid (put_seven HR1.out (.int .u8 0) (.int .i64 0) (.int .i64 0) (.int .i64 0) (.int .i64 0) (.slice none 0 0) (.slice none 0 0))
   have HBE := Lib.hid (up_seven HB1.out (Nat.le_refl _) (.int .u8 0) (.int .i64 0) (.int .i64 0) (.int .i64 0) (.int .i64 0) (.slice none 0 0) (.slice none 0 0))
   obtain ⟨k0, k1, k2, k3, k4, k5, k6⟩ := HE.out.seven
   exact bodyPost_ret (v := .tuple #[InR.val ⟨0, 0, 0, 0, 0, none, 0, [], none, 0, []⟩, .bool false]) (by simp [results, Tryz.results143, go_sem, InR.val, k0, k1, k2, k3, k4, k5, k6]) rfl ⟨HBE.out, ⟨0, 0, 0, 0, 0, none, 0, [], none, 0, []⟩, by rw [HI.out]; rfl, by
    rw [HI.out]
    intro p hp
    cases hp⟩
 · have y1 : ((op : Int) == 0) = false := by rw [beq_eq_false_iff_ne]; omega
   have y2 : ¬ (op : Int) = 0 := by omega
   cases b5 with
   | true =>
     have HI : Hid (K = none) := Lib.hid (by rw [HK0.out, if_neg (fun h => by cases h.2)])
     clear z0 z1 z2 z3 z4 z5 z6 zz
     go_wp2_with (go_at_call 122; refine (HAN.out _).mono ?_; rintro e w2 ⟨rfl, hb2⟩; have HR2 := Lib.hid (HR1.out.beneath hb2); have HB2 := Lib.hid (HB1.out.trans (hb2.mono HB1.out.size)); obtain ⟨z0, z1, z2, z3, z4, z5, z6⟩ := HR2.out.seven; have zz := HR2.out.free; clear hb2; refine pause ?_)
     refine resume ?_
     go_wp2_with fail
     have HE := Lib.hid (put_seven HR2.out (.int .u8 0) (.int .i64 0) (.int .i64 0) (.int .i64 0) (.int .i64 0) (.slice none 0 0) (.slice none 0 0))
     have HBE := Lib.hid (up_seven HB2.out (Nat.le_refl _) (.int .u8 0) (.int .i64 0) (.int .i64 0) (.int .i64 0) (.int .i64 0) (.slice none 0 0) (.slice none 0 0))
     obtain ⟨k0, k1, k2, k3, k4, k5, k6⟩ := HE.out.seven
     exact bodyPost_ret (v := .tuple #[InR.val ⟨0, 0, 0, 0, 0, none, 0, [], none, 0, []⟩, .bool false]) (by simp [results, Tryz.results143, go_sem, InR.val, k0, k1, k2, k3, k4, k5, k6]) rfl ⟨HBE.out, ⟨0, 0, 0, 0, 0, none, 0, [], none, 0, []⟩, by rw [HI.out]; rfl, by
      rw [HI.out]
      intro p hp
      cases hp⟩
   | false =>
     have HI : Hid (K = hasP op 0 (t.map toL)) := Lib.hid (by rw [HK0.out, if_pos ⟨h0, rfl⟩])
     clear z0 z1 z2 z3 z4 z5 z6 zz
     obtain ⟨KH, hKH⟩ : ∃ KH, hasP op 0 (t.map toL) = KH := ⟨_, rfl⟩
     rw [hKH] at HHAS1 HI
     clear hKH
     obtain ⟨zb, hzb⟩ : ∃ zb, KH.isSome = zb := ⟨_, rfl⟩
     have HZ := Lib.hid hzb
     unfold RfIns at HHAS1
     rw [hzb] at HHAS1
     clear hzb
     by_cases hcc : c = 1
     · exact absurd hl4 (by omega)
     · have HH2 : Hid (∀ W, Below w.heap.size w W → _) := Lib.hid (fun W hbw => by
        have h := HHAS1.out W hbw
        rw [if_neg hcc] at h
        exact h)
       clear HHAS1
       have y3 : ¬ c = 1 := hcc
       have y4 : 1 ≤ c := by omega
       have y5 : (1 : Int) ≤ c := by omega
       go_wp2_with (first | (go_at_call 165; refine (HH2.out _ HB2.out).mono ?_; rintro e w3 ⟨hb3, r, rfl, hr⟩; obtain ⟨rop, rty, ra, rb, rn, raa, rac, rargs, rfa, rfc, rfrom⟩ := r; have HRR := Lib.hid hr; have hsz := HB2.out.size; have HSZ := Lib.hid hsz; have HR3 := Lib.hid (HR2.out.beneath hb3); have HB3 := Lib.hid (HB2.out.trans (hb3.mono hsz)); clear hb3 hr hsz z0 z1 z2 z3 z4 z5 z6 zz; dsimp only [InR.val]; obtain ⟨z0, z1, z2, z3, z4, z5, z6⟩ := HR3.out.seven; have zz := HR3.out.free; refine pause ?_) | (go_at_call 122; refine (HAN.out _).mono ?_; rintro e w2 ⟨rfl, hb2⟩; have HR2 := Lib.hid (HR1.out.beneath hb2); have HB2 := Lib.hid (HB1.out.trans (hb2.mono HB1.out.size)); obtain ⟨z0, z1, z2, z3, z4, z5, z6⟩ := HR2.out.seven; have zz := HR2.out.free; clear hb2))
       refine resume ?_
       go_wp2_with fail
       have HE := Lib.hid (put_seven HR3.out (.int .u8 rop) (.int .i64 rty) (.int .i64 ra) (.int .i64 rb) (.int .i64 rn) (.slice raa rargs.length rac) (.slice rfa rfrom.length rfc))
       have HBE := Lib.hid (up_seven HB3.out (Nat.le_refl _) (.int .u8 rop) (.int .i64 rty) (.int .i64 ra) (.int .i64 rb) (.int .i64 rn) (.slice raa rargs.length rac) (.slice rfa rfrom.length rfc))
       obtain ⟨k0, k1, k2, k3, k4, k5, k6⟩ := HE.out.seven
       exact bodyPost_ret (v := .tuple #[InR.val ⟨rop, rty, ra, rb, rn, raa, rac, rargs, rfa, rfc, rfrom⟩, .bool zb]) (by simp [results, Tryz.results143, go_sem, InR.val, k0, k1, k2, k3, k4, k5, k6]) rfl ⟨HBE.out, ⟨rop, rty, ra, rb, rn, raa, rac, rargs, rfa, rfc, rfrom⟩, by rw [HI.out, HZ.out], by
        rw [HI.out]
        intro p hp
        exact ⟨(HRR.out p hp).1, ((HRR.out p hp).2.more HSZ.out).spare (spare_seven HR3.out (.int .u8 rop) (.int .i64 rty) (.int .i64 ra) (.int .i64 rb) (.int .i64 rn) (.slice raa rargs.length rac) (.slice rfa rfrom.length rfc)) (by decide)⟩⟩
theorem insP_eq (r t o : Bs) {e : Bs} (h : e = bEq) (W : List Bs) (reg : Int) : insP (r :: t :: e :: o :: W) reg = (match markP r 114, markP t 116 with
    | some n, some ty => if n = reg ∧ hasT (opP o) 5 = true then hasP (opP o) ty W else none
    | _, _ => none) := by
 unfold insP
 dsimp only
 rw [if_pos h]
 cases markP r 114 <;> cases markP t 116 <;> rfl
set_option maxRecDepth 100000 in
set_option maxHeartbeats 6400000 in
theorem rfins_eq (hx : x.Ok w) (h64 : x.xs.length ≤ 20000) (reg : Int) {s0 s1 s2 s3 : ByteArray} {t : List ByteArray} (hxs : x.xs = s0 :: s1 :: s2 :: s3 :: t) (h3 : toL s2 = bEq) : Calls Tryz.prog 143 #[.slice x.a x.xs.length x.c, .int .i64 reg] w (RfIns w (insP (toL s0 :: toL s1 :: toL s2 :: toL s3 :: t.map toL) reg)) := by
 have hl4 : 4 ≤ x.xs.length := by rw [hxs]; exact Nat.succ_le_succ (Nat.succ_le_succ (Nat.succ_le_succ (Nat.succ_le_succ (Nat.zero_le _))))
 obtain ⟨b, off, ha, hb, hc⟩ := hx.first2b hxs
 have hcle := hx.at_.hdr.cle
 have hfit : x.xs.length ≤ x.c := hx.at_.hdr.fit
 have HC0 : Hid (w.cell? ⟨b, off, none⟩ = some (.string s0)) := Lib.hid hc
 have HC1 : Hid (w.cell? ⟨b, off + 1, none⟩ = some (.string s1)) := Lib.hid (hx.cellK ha (k := 1) (by omega) (by rw [hxs]; rfl))
 have HC2 : Hid (w.cell? ⟨b, off + 2, none⟩ = some (.string s2)) := Lib.hid (hx.cellK ha (k := 2) (by omega) (by rw [hxs]; rfl))
 have HC3 : Hid (w.cell? ⟨b, off + 3, none⟩ = some (.string s3)) := Lib.hid (hx.cellK ha (k := 3) (by omega) (by rw [hxs]; rfl))
 obtain ⟨A, c, xs⟩ := x
 dsimp only at *
 subst ha
 have HRB := Lib.hid (Blk.new w 74 #[.int .u8 0, .int .i64 0, .int .i64 0, .int .i64 0, .int .i64 0, .slice none 0 0, .slice none 0 0])
 have HBN : Hid (Below w.heap.size w (w.alloc (.cells #[.int .u8 0, .int .i64 0, .int .i64 0, .int .i64 0, .int .i64 0, .slice none 0 0, .slice none 0 0] 74))) := Lib.hid ((Below.refl _ _).alloc (Nat.le_refl _) _)
 have d0 : (w.alloc (.cells #[.int .u8 0, .int .i64 0, .int .i64 0, .int .i64 0, .int .i64 0, .slice none 0 0, .slice none 0 0] 74)).cell? ⟨b, off, none⟩ = some (.string s0) := (HBN.out.cell (p := ⟨b, off, none⟩) hb).trans HC0.out
 have d1 : (w.alloc (.cells #[.int .u8 0, .int .i64 0, .int .i64 0, .int .i64 0, .int .i64 0, .slice none 0 0, .slice none 0 0] 74)).cell? ⟨b, off + 1, none⟩ = some (.string s1) := (HBN.out.cell (p := ⟨b, off + 1, none⟩) hb).trans HC1.out
 have d2 : (w.alloc (.cells #[.int .u8 0, .int .i64 0, .int .i64 0, .int .i64 0, .int .i64 0, .slice none 0 0, .slice none 0 0] 74)).cell? ⟨b, off + 2, none⟩ = some (.string s2) := (HBN.out.cell (p := ⟨b, off + 2, none⟩) hb).trans HC2.out
 have d3 : (w.alloc (.cells #[.int .u8 0, .int .i64 0, .int .i64 0, .int .i64 0, .int .i64 0, .slice none 0 0, .slice none 0 0] 74)).cell? ⟨b, off + 3, none⟩ = some (.string s3) := (HBN.out.cell (p := ⟨b, off + 3, none⟩) hb).trans HC3.out
 have e3 : (s2.toList == [61]) = true := str_yes h3
 have HHAS := Lib.hid (fun (op : Nat) (ty : Int) (hop : op ≤ 255) (W : World) (hbw : Below w.heap.size w W) => rhas_cut (r := 4) hx.at_ ty hop h64 hbw hl4)
 rw [show (xs.drop 4).map toL = t.map toL by rw [hxs]; rfl] at HHAS
 have HOP := Lib.hid (fun (W : World) => roperation_any s3 W)
 obtain ⟨op, hop⟩ : ∃ op, opP (toL s3) = op := ⟨_, rfl⟩
 rw [hop] at HOP
 have hlt : op < 23 := by rw [← hop]; exact opP_lt _
 have HM1 := Lib.hid (fun (W : World) => rmark_is s0 114 W)
 have HM2 := Lib.hid (fun (W : World) => rmark_is s1 116 W)
 rw [show ((114 : UInt8).toNat : Int) = 114 from rfl] at HM1
 rw [show ((116 : UInt8).toNat : Int) = 116 from rfl] at HM2
 obtain ⟨o1, ho1⟩ : ∃ o1, markP (toL s0) 114 = o1 := ⟨_, rfl⟩
 obtain ⟨o2, ho2⟩ : ∃ o2, markP (toL s1) 116 = o2 := ⟨_, rfl⟩
 have HK0 := Lib.hid (insP_eq (toL s0) (toL s1) (toL s3) h3 (t.map toL) reg)
 rw [ho1, ho2, hop] at HK0
 rw [ho1] at HM1
 rw [ho2] at HM2
 obtain ⟨K, hK⟩ : ∃ K, insP (toL s0 :: toL s1 :: toL s2 :: toL s3 :: t.map toL) reg = K := ⟨_, rfl⟩
 rw [hK] at HK0 ⊢
 have q3 : (3 : Int) < xs.length := by omega
 have q4 : (2 : Int) < xs.length := by omega
 have q5 : (1 : Int) < xs.length := by omega
 have q0 : (0 : Int) < xs.length := by omega
 have q1 : (4 : Int) ≤ xs.length := by omega
 have HHAS1 := Lib.hid (fun ty => HHAS.out op ty (by omega))
 clear HHAS hx hK hop hc ho1 ho2
 obtain ⟨n, hn⟩ : ∃ n, xs.length = n := ⟨_, rfl⟩
 rw [hn] at HHAS1 hcle hfit hl4 q0 q1 q3 q4 q5 ⊢
 clear hn hxs h3
 obtain ⟨b5, hb5⟩ : ∃ b5, hasT op 5 = b5 := ⟨_, rfl⟩
 have HAN := Lib.hid (fun (W : World) => ranswers_any op W)
 rw [hb5] at HAN HK0
 clear hb5
 go_enter Tryz.func143, Tryz.ntmps143
 cases o1 with
 | none =>
   dsimp only [Option.getD, errN] at HM1
   go_wp2_with (go_at_call 65; refine (HM1.out _).mono ?_; rintro e w1 ⟨rfl, hb1⟩; have HR1 := Lib.hid (HRB.out.beneath hb1); have HB1 := Lib.hid (HBN.out.trans (hb1.mono HBN.out.size)); have f1 : w1.cell? ⟨b, off + 1, none⟩ = some (.string s1) := (HB1.out.cell (p := ⟨b, off + 1, none⟩) hb).trans HC1.out; have f3 : w1.cell? ⟨b, off + 3, none⟩ = some (.string s3) := (HB1.out.cell (p := ⟨b, off + 3, none⟩) hb).trans HC3.out; clear hb1; refine pause ?_)
   clear d0 d1 d2 d3 HM1
   refine resume ?_
   cases o2 with
   | none =>
     dsimp only [Option.getD, errN] at HM2
     go_wp2_with (go_at_call 65; refine (HM2.out _).mono ?_; rintro e w2 ⟨rfl, hb2⟩; have HR2 := Lib.hid (HR1.out.beneath hb2); have HB2 := Lib.hid (HB1.out.trans (hb2.mono HB1.out.size)); have d3 : w2.cell? ⟨b, off + 3, none⟩ = some (.string s3) := (HB2.out.cell (p := ⟨b, off + 3, none⟩) hb).trans HC3.out; clear hb2; refine pause ?_)
     clear f1 f3 HM2
     refine resume ?_
     go_wp2_with (go_at_call 164; refine (HOP.out _).mono ?_; rintro e w3 ⟨rfl, hb3⟩; have HR3 := Lib.hid (HR2.out.beneath hb3); have HB3 := Lib.hid (HB2.out.trans (hb3.mono HB2.out.size)); obtain ⟨z0, z1, z2, z3, z4, z5, z6⟩ := HR3.out.seven; have zz := HR3.out.free; clear hb3; refine pause ?_)
     clear d3 HOP HC0 HC1 HC2 HC3
     refine resume ?_
     have HI : Hid (K = none) := HK0
     go_wp2_with fail
     have HE := Lib.hid (put_seven HR3.out (.int .u8 0) (.int .i64 0) (.int .i64 0) (.int .i64 0) (.int .i64 0) (.slice none 0 0) (.slice none 0 0))
     have HBE := Lib.hid (up_seven HB3.out (Nat.le_refl _) (.int .u8 0) (.int .i64 0) (.int .i64 0) (.int .i64 0) (.int .i64 0) (.slice none 0 0) (.slice none 0 0))
     obtain ⟨k0, k1, k2, k3, k4, k5, k6⟩ := HE.out.seven
     exact bodyPost_ret (v := .tuple #[InR.val ⟨0, 0, 0, 0, 0, none, 0, [], none, 0, []⟩, .bool false]) (by simp [results, Tryz.results143, go_sem, InR.val, k0, k1, k2, k3, k4, k5, k6]) rfl ⟨HBE.out, ⟨0, 0, 0, 0, 0, none, 0, [], none, 0, []⟩, by rw [HI.out]; rfl, by
      rw [HI.out]
      intro p hp
      cases hp⟩
   | some ty =>
     dsimp only [Option.getD, errN] at HM2
     go_wp2_with (go_at_call 65; refine (HM2.out _).mono ?_; rintro e w2 ⟨rfl, hb2⟩; have HR2 := Lib.hid (HR1.out.beneath hb2); have HB2 := Lib.hid (HB1.out.trans (hb2.mono HB1.out.size)); have d3 : w2.cell? ⟨b, off + 3, none⟩ = some (.string s3) := (HB2.out.cell (p := ⟨b, off + 3, none⟩) hb).trans HC3.out; clear hb2; refine pause ?_)
     clear f1 f3 HM2
     refine resume ?_
     go_wp2_with (go_at_call 164; refine (HOP.out _).mono ?_; rintro e w3 ⟨rfl, hb3⟩; have HR3 := Lib.hid (HR2.out.beneath hb3); have HB3 := Lib.hid (HB2.out.trans (hb3.mono HB2.out.size)); obtain ⟨z0, z1, z2, z3, z4, z5, z6⟩ := HR3.out.seven; have zz := HR3.out.free; clear hb3; refine pause ?_)
     clear d3 HOP HC0 HC1 HC2 HC3
     refine resume ?_
     have HI : Hid (K = none) := HK0
     go_wp2_with fail
     have HE := Lib.hid (put_seven HR3.out (.int .u8 0) (.int .i64 0) (.int .i64 0) (.int .i64 0) (.int .i64 0) (.slice none 0 0) (.slice none 0 0))
     have HBE := Lib.hid (up_seven HB3.out (Nat.le_refl _) (.int .u8 0) (.int .i64 0) (.int .i64 0) (.int .i64 0) (.int .i64 0) (.slice none 0 0) (.slice none 0 0))
     obtain ⟨k0, k1, k2, k3, k4, k5, k6⟩ := HE.out.seven
     exact bodyPost_ret (v := .tuple #[InR.val ⟨0, 0, 0, 0, 0, none, 0, [], none, 0, []⟩, .bool false]) (by simp [results, Tryz.results143, go_sem, InR.val, k0, k1, k2, k3, k4, k5, k6]) rfl ⟨HBE.out, ⟨0, 0, 0, 0, 0, none, 0, [], none, 0, []⟩, by rw [HI.out]; rfl, by
      rw [HI.out]
      intro p hp
      cases hp⟩
 | some m =>
   dsimp only [Option.getD, errN] at HM1
   go_wp2_with (go_at_call 65; refine (HM1.out _).mono ?_; rintro e w1 ⟨rfl, hb1⟩; have HR1 := Lib.hid (HRB.out.beneath hb1); have HB1 := Lib.hid (HBN.out.trans (hb1.mono HBN.out.size)); have f1 : w1.cell? ⟨b, off + 1, none⟩ = some (.string s1) := (HB1.out.cell (p := ⟨b, off + 1, none⟩) hb).trans HC1.out; have f3 : w1.cell? ⟨b, off + 3, none⟩ = some (.string s3) := (HB1.out.cell (p := ⟨b, off + 3, none⟩) hb).trans HC3.out; clear hb1; refine pause ?_)
   clear d0 d1 d2 d3 HM1
   refine resume ?_
   cases o2 with
   | none =>
     dsimp only [Option.getD, errN] at HM2
     go_wp2_with (go_at_call 65; refine (HM2.out _).mono ?_; rintro e w2 ⟨rfl, hb2⟩; have HR2 := Lib.hid (HR1.out.beneath hb2); have HB2 := Lib.hid (HB1.out.trans (hb2.mono HB1.out.size)); have d3 : w2.cell? ⟨b, off + 3, none⟩ = some (.string s3) := (HB2.out.cell (p := ⟨b, off + 3, none⟩) hb).trans HC3.out; clear hb2; refine pause ?_)
     clear f1 f3 HM2
     refine resume ?_
     go_wp2_with (go_at_call 164; refine (HOP.out _).mono ?_; rintro e w3 ⟨rfl, hb3⟩; have HR3 := Lib.hid (HR2.out.beneath hb3); have HB3 := Lib.hid (HB2.out.trans (hb3.mono HB2.out.size)); obtain ⟨z0, z1, z2, z3, z4, z5, z6⟩ := HR3.out.seven; have zz := HR3.out.free; clear hb3; refine pause ?_)
     clear d3 HOP HC0 HC1 HC2 HC3
     refine resume ?_
     have HI : Hid (K = none) := HK0
     go_wp2_with fail
     have HE := Lib.hid (put_seven HR3.out (.int .u8 0) (.int .i64 0) (.int .i64 0) (.int .i64 0) (.int .i64 0) (.slice none 0 0) (.slice none 0 0))
     have HBE := Lib.hid (up_seven HB3.out (Nat.le_refl _) (.int .u8 0) (.int .i64 0) (.int .i64 0) (.int .i64 0) (.int .i64 0) (.slice none 0 0) (.slice none 0 0))
     obtain ⟨k0, k1, k2, k3, k4, k5, k6⟩ := HE.out.seven
     exact bodyPost_ret (v := .tuple #[InR.val ⟨0, 0, 0, 0, 0, none, 0, [], none, 0, []⟩, .bool false]) (by simp [results, Tryz.results143, go_sem, InR.val, k0, k1, k2, k3, k4, k5, k6]) rfl ⟨HBE.out, ⟨0, 0, 0, 0, 0, none, 0, [], none, 0, []⟩, by rw [HI.out]; rfl, by
      rw [HI.out]
      intro p hp
      cases hp⟩
   | some ty =>
     dsimp only [Option.getD, errN] at HM2
     go_wp2_with (go_at_call 65; refine (HM2.out _).mono ?_; rintro e w2 ⟨rfl, hb2⟩; have HR2 := Lib.hid (HR1.out.beneath hb2); have HB2 := Lib.hid (HB1.out.trans (hb2.mono HB1.out.size)); have d3 : w2.cell? ⟨b, off + 3, none⟩ = some (.string s3) := (HB2.out.cell (p := ⟨b, off + 3, none⟩) hb).trans HC3.out; clear hb2; refine pause ?_)
     clear f1 f3 HM2
     refine resume ?_
     go_wp2_with (go_at_call 164; refine (HOP.out _).mono ?_; rintro e w3 ⟨rfl, hb3⟩; have HR3 := Lib.hid (HR2.out.beneath hb3); have HB3 := Lib.hid (HB2.out.trans (hb3.mono HB2.out.size)); obtain ⟨z0, z1, z2, z3, z4, z5, z6⟩ := HR3.out.seven; have zz := HR3.out.free; clear hb3; refine pause ?_)
     clear d3 HOP HC0 HC1 HC2 HC3
     refine resume ?_
     by_cases hm : m = reg
     · subst hm
       cases b5 with
       | false =>
         have HI : Hid (K = none) := Lib.hid (by rw [HK0.out]; exact if_neg (fun h => by cases h.2))
         clear z0 z1 z2 z3 z4 z5 z6 zz
         go_wp2_with (go_at_call 122; refine (HAN.out _).mono ?_; rintro e w4 ⟨rfl, hb4⟩; have HR4 := Lib.hid (HR3.out.beneath hb4); have HB4 := Lib.hid (HB3.out.trans (hb4.mono HB3.out.size)); obtain ⟨z0, z1, z2, z3, z4, z5, z6⟩ := HR4.out.seven; have zz := HR4.out.free; clear hb4; refine pause ?_)
         refine resume ?_
         go_wp2_with fail
         have HE := Lib.hid (put_seven HR4.out (.int .u8 0) (.int .i64 0) (.int .i64 0) (.int .i64 0) (.int .i64 0) (.slice none 0 0) (.slice none 0 0))
         have HBE := Lib.hid (up_seven HB4.out (Nat.le_refl _) (.int .u8 0) (.int .i64 0) (.int .i64 0) (.int .i64 0) (.int .i64 0) (.slice none 0 0) (.slice none 0 0))
         obtain ⟨k0, k1, k2, k3, k4, k5, k6⟩ := HE.out.seven
         exact bodyPost_ret (v := .tuple #[InR.val ⟨0, 0, 0, 0, 0, none, 0, [], none, 0, []⟩, .bool false]) (by simp [results, Tryz.results143, go_sem, InR.val, k0, k1, k2, k3, k4, k5, k6]) rfl ⟨HBE.out, ⟨0, 0, 0, 0, 0, none, 0, [], none, 0, []⟩, by rw [HI.out]; rfl, by
          rw [HI.out]
          intro p hp
          cases hp⟩
       | true =>
         have HI : Hid (K = hasP op ty (t.map toL)) := Lib.hid (by rw [HK0.out]; exact if_pos ⟨rfl, rfl⟩)
         clear z0 z1 z2 z3 z4 z5 z6 zz
         have HHAS2 := Lib.hid (HHAS1.out ty)
         obtain ⟨KH, hKH⟩ : ∃ KH, hasP op ty (t.map toL) = KH := ⟨_, rfl⟩
         rw [hKH] at HHAS2 HI
         clear hKH HHAS1
         obtain ⟨zb, hzb⟩ : ∃ zb, KH.isSome = zb := ⟨_, rfl⟩
         have HZ := Lib.hid hzb
         unfold RfIns at HHAS2
         rw [hzb] at HHAS2
         clear hzb
         by_cases hcc : c = 4
         · have HH2 : Hid (∀ W, Below w.heap.size w W → _) := Lib.hid (fun W hbw => by
            have h := HHAS2.out W hbw
            rw [if_pos hcc] at h
            exact h)
           clear HHAS2
           subst hcc
           obtain rfl : n = 4 := by omega
           go_wp2_with (first | (go_at_call 165; refine (HH2.out _ HB4.out).mono ?_; rintro e w5 ⟨hb5, r, rfl, hr⟩; obtain ⟨rop, rty, ra, rb, rn, raa, rac, rargs, rfa, rfc, rfrom⟩ := r; have HRR := Lib.hid hr; have hsz := HB4.out.size; have HSZ := Lib.hid hsz; have HR5 := Lib.hid (HR4.out.beneath hb5); have HB5 := Lib.hid (HB4.out.trans (hb5.mono hsz)); clear hb5 hr hsz z0 z1 z2 z3 z4 z5 z6 zz; dsimp only [InR.val]; obtain ⟨z0, z1, z2, z3, z4, z5, z6⟩ := HR5.out.seven; have zz := HR5.out.free; refine pause ?_) | (go_at_call 122; refine (HAN.out _).mono ?_; rintro e w4 ⟨rfl, hb4⟩; have HR4 := Lib.hid (HR3.out.beneath hb4); have HB4 := Lib.hid (HB3.out.trans (hb4.mono HB3.out.size)); obtain ⟨z0, z1, z2, z3, z4, z5, z6⟩ := HR4.out.seven; have zz := HR4.out.free; clear hb4))
           refine resume ?_
           go_wp2_with fail
           have HE := Lib.hid (put_seven HR5.out (.int .u8 rop) (.int .i64 rty) (.int .i64 ra) (.int .i64 rb) (.int .i64 rn) (.slice raa rargs.length rac) (.slice rfa rfrom.length rfc))
           have HBE := Lib.hid (up_seven HB5.out (Nat.le_refl _) (.int .u8 rop) (.int .i64 rty) (.int .i64 ra) (.int .i64 rb) (.int .i64 rn) (.slice raa rargs.length rac) (.slice rfa rfrom.length rfc))
           obtain ⟨k0, k1, k2, k3, k4, k5, k6⟩ := HE.out.seven
           exact bodyPost_ret (v := .tuple #[InR.val ⟨rop, rty, ra, rb, rn, raa, rac, rargs, rfa, rfc, rfrom⟩, .bool zb]) (by simp [results, Tryz.results143, go_sem, InR.val, k0, k1, k2, k3, k4, k5, k6]) rfl ⟨HBE.out, ⟨rop, rty, ra, rb, rn, raa, rac, rargs, rfa, rfc, rfrom⟩, by rw [HI.out, HZ.out], by
            rw [HI.out]
            intro p hp
            exact ⟨(HRR.out p hp).1, ((HRR.out p hp).2.more HSZ.out).spare (spare_seven HR5.out (.int .u8 rop) (.int .i64 rty) (.int .i64 ra) (.int .i64 rb) (.int .i64 rn) (.slice raa rargs.length rac) (.slice rfa rfrom.length rfc)) (by decide)⟩⟩
         · have HH2 : Hid (∀ W, Below w.heap.size w W → _) := Lib.hid (fun W hbw => by
            have h := HHAS2.out W hbw
            rw [if_neg hcc] at h
            exact h)
           clear HHAS2
           have y3 : ¬ c = 4 := hcc
           have y4 : 4 ≤ c := by omega
           have y5 : (4 : Int) ≤ c := by omega
           go_wp2_with (first | (go_at_call 165; refine (HH2.out _ HB4.out).mono ?_; rintro e w5 ⟨hb5, r, rfl, hr⟩; obtain ⟨rop, rty, ra, rb, rn, raa, rac, rargs, rfa, rfc, rfrom⟩ := r; have HRR := Lib.hid hr; have hsz := HB4.out.size; have HSZ := Lib.hid hsz; have HR5 := Lib.hid (HR4.out.beneath hb5); have HB5 := Lib.hid (HB4.out.trans (hb5.mono hsz)); clear hb5 hr hsz z0 z1 z2 z3 z4 z5 z6 zz; dsimp only [InR.val]; obtain ⟨z0, z1, z2, z3, z4, z5, z6⟩ := HR5.out.seven; have zz := HR5.out.free; refine pause ?_) | (go_at_call 122; refine (HAN.out _).mono ?_; rintro e w4 ⟨rfl, hb4⟩; have HR4 := Lib.hid (HR3.out.beneath hb4); have HB4 := Lib.hid (HB3.out.trans (hb4.mono HB3.out.size)); obtain ⟨z0, z1, z2, z3, z4, z5, z6⟩ := HR4.out.seven; have zz := HR4.out.free; clear hb4))
           refine resume ?_
           go_wp2_with fail
           have HE := Lib.hid (put_seven HR5.out (.int .u8 rop) (.int .i64 rty) (.int .i64 ra) (.int .i64 rb) (.int .i64 rn) (.slice raa rargs.length rac) (.slice rfa rfrom.length rfc))
           have HBE := Lib.hid (up_seven HB5.out (Nat.le_refl _) (.int .u8 rop) (.int .i64 rty) (.int .i64 ra) (.int .i64 rb) (.int .i64 rn) (.slice raa rargs.length rac) (.slice rfa rfrom.length rfc))
           obtain ⟨k0, k1, k2, k3, k4, k5, k6⟩ := HE.out.seven
           exact bodyPost_ret (v := .tuple #[InR.val ⟨rop, rty, ra, rb, rn, raa, rac, rargs, rfa, rfc, rfrom⟩, .bool zb]) (by simp [results, Tryz.results143, go_sem, InR.val, k0, k1, k2, k3, k4, k5, k6]) rfl ⟨HBE.out, ⟨rop, rty, ra, rb, rn, raa, rac, rargs, rfa, rfc, rfrom⟩, by rw [HI.out, HZ.out], by
            rw [HI.out]
            intro p hp
            exact ⟨(HRR.out p hp).1, ((HRR.out p hp).2.more HSZ.out).spare (spare_seven HR5.out (.int .u8 rop) (.int .i64 rty) (.int .i64 ra) (.int .i64 rb) (.int .i64 rn) (.slice raa rargs.length rac) (.slice rfa rfrom.length rfc)) (by decide)⟩⟩
     · have y1 : (m == reg) = false := by rw [beq_eq_false_iff_ne]; exact hm
       have y2 : (m != reg) = true := by rw [bne_iff_ne]; exact hm
       have HI : Hid (K = none) := Lib.hid (by rw [HK0.out]; exact if_neg (fun h => hm h.1))
       clear hm
       go_wp2_with fail
       have HE := Lib.hid (put_seven HR3.out (.int .u8 0) (.int .i64 0) (.int .i64 0) (.int .i64 0) (.int .i64 0) (.slice none 0 0) (.slice none 0 0))
       have HBE := Lib.hid (up_seven HB3.out (Nat.le_refl _) (.int .u8 0) (.int .i64 0) (.int .i64 0) (.int .i64 0) (.int .i64 0) (.slice none 0 0) (.slice none 0 0))
       obtain ⟨k0, k1, k2, k3, k4, k5, k6⟩ := HE.out.seven
       exact bodyPost_ret (v := .tuple #[InR.val ⟨0, 0, 0, 0, 0, none, 0, [], none, 0, []⟩, .bool false]) (by simp [results, Tryz.results143, go_sem, InR.val, k0, k1, k2, k3, k4, k5, k6]) rfl ⟨HBE.out, ⟨0, 0, 0, 0, 0, none, 0, [], none, 0, []⟩, by rw [HI.out]; rfl, by
        rw [HI.out]
        intro p hp
        cases hp⟩
theorem rfins_any (hx : x.Ok w) (h64 : x.xs.length ≤ 20000) (h0 : 0 < x.xs.length) (reg : Int) : Calls Tryz.prog 143 #[.slice x.a x.xs.length x.c, .int .i64 reg] w (RfIns w (insP x.data reg)) := by
 unfold LnR.data
 match hxs : x.xs, h0 with
 | [s0], _ =>
   have h := rfins_few hx h64 reg hxs (by rw [hxs]; exact Nat.le_of_ble_eq_true rfl)
   rw [hxs] at h
   exact h
 | [s0, s1], _ =>
   have h := rfins_few hx h64 reg hxs (by rw [hxs]; exact Nat.le_of_ble_eq_true rfl)
   rw [hxs] at h
   exact h
 | [s0, s1, s2], _ =>
   have h := rfins_few hx h64 reg hxs (by rw [hxs]; exact Nat.le_of_ble_eq_true rfl)
   rw [hxs] at h
   exact h
 | s0 :: s1 :: s2 :: s3 :: t, _ =>
   by_cases h3 : toL s2 = bEq
   · have h := rfins_eq hx h64 reg hxs h3
     rw [hxs] at h
     exact h
   · have h := rfins_plain hx h64 reg rfl hxs h3
     rw [hxs] at h
     have e : insP ((s0 :: s1 :: s2 :: s3 :: t).map toL) reg = plainP (toL s0 :: (s1 :: s2 :: s3 :: t).map toL) := by
      show (if toL s2 = bEq then _ else _) = _
      rw [if_neg h3]
      rfl
     rw [e]
     exact h
end
section
variable {w w' W : World} {l : LsR}
theorem LsR.Ok.nth (h : l.Ok w) {k : Nat} (hk : k < l.rows.length) : ∃ b off r, l.a = some ⟨b, off, none⟩ ∧ b < w.heap.size ∧ w.cell? ⟨b, off + k, none⟩ = some (.slice r.a r.xs.length r.c) ∧ r.Ok w ∧ l.rows.drop k = r :: l.rows.drop (k + 1) ∧ r ∈ l.rows := by
 obtain ⟨b, off, e, h1, h2, hc⟩ := h.cells (Nat.lt_of_le_of_lt (Nat.zero_le _) hk)
 have c0 := hc k hk 0 (by omega)
 rw [Nat.mul_one, Nat.add_zero] at c0
 have hg : l.rows.getD k default = l.rows[k] := by rw [List.getD_eq_getElem?_getD, List.getElem?_eq_getElem hk]; rfl
 dsimp only at c0
 rw [hg] at c0
 exact ⟨b, off, l.rows[k], e, h2, c0, h.ok _ (List.getElem_mem hk), List.drop_eq_getElem_cons hk, List.getElem_mem hk⟩
theorem LsR.Ok.cut (h : l.Ok w) {b off : Nat} (ha : l.a = some ⟨b, off, none⟩) {n : Nat} (hn : n ≤ l.rows.length) : LsR.Ok w ⟨if l.c = n then some ⟨b, off, none⟩ else some ⟨b, off + n, none⟩, l.c - n, l.rows.drop n⟩ := by
 have hl : (l.rows.drop n).length = l.rows.length - n := List.length_drop
 have hf : l.rows.length ≤ l.c := h.hdr.fit
 have hcp : l.c ≤ maxLen := h.hdr.cap
 refine ⟨⟨?_, ?_, fun e => ?_⟩, fun hp => ?_, fun hp => ?_, fun r hr => h.ok r (List.mem_of_mem_drop hr)⟩
 · show (l.rows.drop n).length ≤ l.c - n
   omega
 · show l.c - n ≤ maxLen
   omega
 · have e : (if l.c = n then (some ⟨b, off, none⟩ : Option Addr) else some ⟨b, off + n, none⟩) = none := e
   split at e <;> cases e
 · have hp : 0 < (l.rows.drop n).length := hp
   obtain ⟨b', off', e, h1, h2, hc⟩ := h.cells (by omega)
   rw [ha] at e
   injection e with e
   injection e with e e' _
   subst e e'
   refine ⟨b, off + n, if_neg (by omega), h1, h2, fun i hi j hj => ?_⟩
   have hi : i < (l.rows.drop n).length := hi
   have h3 := hc (n + i) (by omega) j hj
   rw [show off + (n + i) * 1 + j = off + n + i * 1 + j by omega] at h3
   rw [h3]
   dsimp only
   rw [List.getD_eq_getElem?_getD, List.getD_eq_getElem?_getD, List.getElem?_drop]
 · have hp : 0 < (l.rows.drop n).length := hp
   obtain ⟨b', off', e, ht⟩ := h.blk (by omega)
   rw [ha] at e
   injection e with e
   injection e with e e' _
   subst e e'
   exact ⟨b, off + n, if_neg (by omega), ht⟩
theorem LOk.cut (h : LOk l) (n : Nat) (A : Option Addr) (c : Nat) : LOk ⟨A, c, l.rows.drop n⟩ := ⟨fun r hr => h.full r (List.mem_of_mem_drop hr), fun r hr => h.few r (List.mem_of_mem_drop hr), by show (l.rows.drop n).length ≤ _; rw [List.length_drop]; have := h.len; omega⟩
end
def RfBlock (w : World) (L : List (List Bs)) (o : Option (PBlk × List (List Bs))) (e : Ending) (w' : World) : Prop :=
 Below w.heap.size w w' ∧ ∃ (r : BlR) (n : Nat), e = .returned (.tuple #[r.val, .int .i64 n, .bool o.isSome]) ∧ ∀ q, o = some q → r.data = q.1 ∧ r.Own w' w.heap.size ∧ q.2 = L.drop n ∧ n ≤ L.length
structure BlkBox (w W : World) (x0 x1 x2 x3 x4 : Value) : Prop where
 below : Below w.heap.size w W
 x : Blk W (w.heap.size + 1) 71 #[x0, x1, x2, x3, x4]
 r : Blk W w.heap.size 71 #[.slice none 0 0, .int .u8 0, .int .i64 0, .int .i64 0, .int .i64 0]
section
variable {w W W' : World} {x0 x1 x2 x3 x4 : Value}
theorem BlkBox.start (w : World) : BlkBox w ((w.alloc (.cells #[.slice none 0 0, .int .u8 0, .int .i64 0, .int .i64 0, .int .i64 0] 71)).alloc (.cells #[.slice none 0 0, .int .u8 0, .int .i64 0, .int .i64 0, .int .i64 0] 71)) (.slice none 0 0) (.int .u8 0) (.int .i64 0) (.int .i64 0) (.int .i64 0) :=
 ⟨((Below.refl _ _).alloc (Nat.le_refl _) _).alloc (by rw [World.size_alloc]; omega) _, Blk.new2 w _ _ _, (Blk.new w _ _).alloc _⟩
theorem BlkBox.call (h : BlkBox w W x0 x1 x2 x3 x4) (hb : Below W.heap.size W W') : BlkBox w W' x0 x1 x2 x3 x4 :=
 ⟨h.below.trans (hb.mono h.below.size), h.x.beneath hb, h.r.beneath hb⟩
theorem BlkBox.new (h : BlkBox w W x0 x1 x2 x3 x4) (cs : Array Value) (t : TypeId) : BlkBox w (W.alloc (.cells cs t)) x0 x1 x2 x3 x4 := h.call ((Below.refl _ _).alloc (Nat.le_refl _) _)
theorem BlkBox.end4 (h : BlkBox w W x0 x1 x2 x3 x4) (a1 a2 a3 a4 : Value) : BlkBox w ((((W.setCell ⟨w.heap.size + 1, 1, none⟩ a1).setCell ⟨w.heap.size + 1, 2, none⟩ a2).setCell ⟨w.heap.size + 1, 3, none⟩ a3).setCell ⟨w.heap.size + 1, 4, none⟩ a4) x0 a1 a2 a3 a4 :=
 ⟨(((h.below.setCell (p := ⟨w.heap.size + 1, 1, none⟩) (Nat.le_succ _) a1).setCell (p := ⟨w.heap.size + 1, 2, none⟩) (Nat.le_succ _) a2).setCell (p := ⟨w.heap.size + 1, 3, none⟩) (Nat.le_succ _) a3).setCell (p := ⟨w.heap.size + 1, 4, none⟩) (Nat.le_succ _) a4,
   (((h.x.put 1 a1).put 2 a2).put 3 a3).put 4 a4,
   (((h.r.far (p := ⟨w.heap.size + 1, 1, none⟩) (Nat.succ_ne_self _).symm a1).far (p := ⟨w.heap.size + 1, 2, none⟩) (Nat.succ_ne_self _).symm a2).far (p := ⟨w.heap.size + 1, 3, none⟩) (Nat.succ_ne_self _).symm a3).far (p := ⟨w.heap.size + 1, 4, none⟩) (Nat.succ_ne_self _).symm a4⟩
theorem BlkBox.put0 (h : BlkBox w W x0 x1 x2 x3 x4) (a : Value) : BlkBox w (W.setCell ⟨w.heap.size + 1, 0, none⟩ a) a x1 x2 x3 x4 :=
 ⟨h.below.setCell (p := ⟨w.heap.size + 1, 0, none⟩) (Nat.le_succ _) a, h.x.put 0 a, h.r.far (p := ⟨w.heap.size + 1, 0, none⟩) (Nat.succ_ne_self _).symm a⟩
theorem up_five (h : Below w.heap.size w W) (a0 a1 a2 a3 a4 : Value) : Below w.heap.size w (((((W.setCell ⟨w.heap.size, 0, none⟩ a0).setCell ⟨w.heap.size, 1, none⟩ a1).setCell ⟨w.heap.size, 2, none⟩ a2).setCell ⟨w.heap.size, 3, none⟩ a3).setCell ⟨w.heap.size, 4, none⟩ a4) :=
 ((((h.setCell (p := ⟨w.heap.size, 0, none⟩) (Nat.le_refl _) a0).setCell (p := ⟨w.heap.size, 1, none⟩) (Nat.le_refl _) a1).setCell (p := ⟨w.heap.size, 2, none⟩) (Nat.le_refl _) a2).setCell (p := ⟨w.heap.size, 3, none⟩) (Nat.le_refl _) a3).setCell (p := ⟨w.heap.size, 4, none⟩) (Nat.le_refl _) a4
theorem put_five {g : Nat} {t : TypeId} (h : Blk W g t #[x0, x1, x2, x3, x4]) (a0 a1 a2 a3 a4 : Value) : Blk (((((W.setCell ⟨g, 0, none⟩ a0).setCell ⟨g, 1, none⟩ a1).setCell ⟨g, 2, none⟩ a2).setCell ⟨g, 3, none⟩ a3).setCell ⟨g, 4, none⟩ a4) g t #[a0, a1, a2, a3, a4] :=
 ((((h.put 0 a0).put 1 a1).put 2 a2).put 3 a3).put 4 a4
theorem BlkBox.grown (h : BlkBox w W x0 x1 x2 x3 x4) {v : Value} {rows : List InR} (ho : OwnIns W w.heap.size v rows) (hg : W.grownBy W' v.ownBlock) : BlkBox w W' x0 x1 x2 x3 x4 :=
 ⟨Below.grown h.below hg h.below.size (fun k hk => (ho.row.lt k hk).1), Blk.grown h.x hg (own_ne ho.row h.x (by decide)), Blk.grown h.r hg (own_ne ho.row h.r (by decide))⟩
end
set_option maxRecDepth 100000 in
set_option maxHeartbeats 6400000 in
theorem rfblock_any {w : World} {l : LsR} (h : l.Ok w) (hl : LOk l) (reg : Int) (hr0 : 0 ≤ reg) (hr1 : reg ≤ 1000000000) : Calls Tryz.prog 106 #[.slice l.a l.rows.length l.c, .int .i64 reg] w (RfBlock w l.data (blockA l.data reg)) := by
 have HX0 := Lib.hid (BlkBox.start w)
 have HO := Lib.hid h
 have HL := Lib.hid hl
 have hlen := hl.len
 have HKA : Hid (∃ K, blockA l.data reg = K) := Lib.hid ⟨_, rfl⟩
 obtain ⟨K, hK⟩ := HKA.out
 rw [hK]
 have HK := Lib.hid hK
 have HDL : Hid (l.data.length = l.rows.length) := Lib.hid (List.length_map ..)
 have hcle := h.hdr.cle
 obtain ⟨LA, lc, ls⟩ := l
 dsimp only at *
 clear h hl hK HKA
 go_enter Tryz.func106, Tryz.ntmps106
 go_wp2_with fail
 go_loopw [8] (fun i wr => ∃ (k : Nat) (rows : List InR) (A : Option Addr) (c : Nat), k ≤ ls.length ∧ i = .int .i64 k ∧ Hid (rows.length = k) ∧ Hid (BlkBox w wr (.slice A rows.length c) (.int .u8 0) (.int .i64 0) (.int .i64 0) (.int .i64 0)) ∧ Hid (OwnIns wr w.heap.size (.slice A rows.length c) rows) ∧ Hid (BlockTo (LsR.data ⟨LA, lc, ls⟩) reg (rows.map InR.data) ((LsR.data ⟨LA, lc, ls⟩).drop k))) (fun i _ => ls.length - (intOf i).toNat)
 case atStart => exact ⟨0, [], none, 0, Nat.zero_le _, rfl, Lib.hid rfl, HX0, Lib.hid (OwnIns.nil _ _), Lib.hid (BlockTo.start _ _)⟩
 case round =>
  obtain ⟨k, rows, A, c, hk, rfl, HRK, HX, HOW, HBT⟩ := hrel
  by_cases hlt : k < ls.length
  · have HLT := Lib.hid hlt
    obtain ⟨b, off, r, ha, hbw, hcell, hrok, hdrop, hmem⟩ := HO.out.nth hlt
    have ha : LA = some ⟨b, off, none⟩ := ha
    subst ha
    have HCL := Lib.hid hcell
    have HBW := Lib.hid hbw
    have HRO := Lib.hid hrok
    have hr0' : 0 < r.xs.length := (HL.out.full r hmem).1
    have HFE := Lib.hid (HL.out.few r hmem)
    have HDD : Hid ((LsR.data ⟨some ⟨b, off, none⟩, lc, ls⟩).drop k = r.data :: (LsR.data ⟨some ⟨b, off, none⟩, lc, ls⟩).drop (k + 1)) := Lib.hid (by
     show (ls.map LnR.data).drop k = _ :: (ls.map LnR.data).drop (k + 1)
     rw [← List.map_drop, ← List.map_drop]
     exact (congrArg (List.map LnR.data) hdrop))
    obtain ⟨b2, o2, s0, ha2, hb2, hc2, hxs, _⟩ := hrok.first hr0'
    have HC2 := Lib.hid hc2
    have HB2 := Lib.hid hb2
    have HHD : Hid (r.data.headD [] = toL s0) := Lib.hid (by show (r.xs.map toL).headD [] = _; rw [hxs]; rfl)
    have HR0 := Lib.hid hr0'
    have HBT1 := HBT.out
    rw [HDD.out] at HBT1
    have HBT2 := Lib.hid HBT1
    clear HBT HBT1 hcell hbw hrok hdrop hmem hc2 hb2 hxs
    have c1 : wr.cell? ⟨b, off + k, none⟩ = some (.slice r.a r.xs.length r.c) := (HX.out.below.cell (p := ⟨b, off + k, none⟩) HBW.out).trans HCL.out
    have c2 : wr.cell? ⟨b2, o2, none⟩ = some (.string s0) := (HX.out.below.cell (p := ⟨b2, o2, none⟩) HB2.out).trans HC2.out
    rw [ha2] at c1
    have q0 : (0 : Int) ≤ (k : Int) := Int.natCast_nonneg _
    have q1 : (k : Int) < (ls.length : Int) := by omega
    have q2 : (0 : Int) < (r.xs.length : Int) := by omega
    have HIE := Lib.hid (fun W => risEnd_any s0 W)
    obtain ⟨b0, hb0⟩ : ∃ b0, isEndP (toL s0) = b0 := ⟨_, rfl⟩
    rw [hb0] at HIE
    have HEB : Hid (isEndP (r.data.headD []) = b0) := Lib.hid (by rw [HHD.out]; exact hb0)
    have HEN := Lib.hid (fun W (hb : Below w.heap.size w W) => rfend_any (HRO.out.on hb) HFE.out HR0.out)
    have HIN := Lib.hid (fun W (hb : Below w.heap.size w W) => rfins_any (HRO.out.on hb) HFE.out HR0.out (reg + (k : Int)))
    rw [ha2] at HEN HIN
    clear hb0 hlt hr0'
    cases b0 with
    | true =>
      have HI : Hid (K = (endP r.data).map fun e => (⟨rows.map InR.data, e⟩, (LsR.data ⟨some ⟨b, off, none⟩, lc, ls⟩).drop (k + 1))) := Lib.hid (by
       rw [← HK.out]
       unfold blockA
       rw [HBT2.out.ends HEB.out, end_tie HEB.out]
       cases endP r.data <;> rfl)
      have hw : IntKind.i64.wrap ((k : Int) + 1) = (k : Int) + 1 := IntWalk.i64_in _ (by omega)
      obtain ⟨o, ho⟩ : ∃ o, endP r.data = o := ⟨_, rfl⟩
      rw [ho] at HI HEN
      clear ho
      obtain ⟨zb, hzb⟩ : ∃ zb, o.isSome = zb := ⟨_, rfl⟩
      have HZ := Lib.hid hzb
      unfold RfEnd at HEN
      rw [hzb] at HEN
      clear hzb
      go_wp2_with (first
       | (go_at_call 142; refine (HEN.out _ HX.out.below).mono ?_; rintro e w4 ⟨hb4, p, rfl, hp⟩; have HP := Lib.hid hp; obtain ⟨kd, ea, et, ee⟩ := p; have HX4 := Lib.hid (HX.out.call hb4); have HO4 := Lib.hid (HOW.out.keep hb4); clear hp hb4; dsimp only [PEnd.val]; refine pause ?_)
       | (go_at_call 141; refine (HIE.out _).mono ?_; rintro e w3 ⟨rfl, rfl⟩))
      clear c1 c2
      have HX5 := Lib.hid (HX4.out.new #[.int .u8 kd, .int .i64 ea, .int .i64 et, .int .i64 ee] 69)
      have HO5 := Lib.hid (HO4.out.keep (w' := w4.alloc (.cells #[.int .u8 kd, .int .i64 ea, .int .i64 et, .int .i64 ee] 69)) ((Below.refl _ _).alloc (Nat.le_refl _) _))
      obtain ⟨x0, x1, x2, x3, x4⟩ := HX5.out.x.five
      have xz := HX5.out.x.free
      obtain ⟨r0, r1, r2, r3, r4⟩ := HX5.out.r.five
      have rz := HX5.out.r.free
      have HX6 := Lib.hid (HX5.out.end4 (.int .u8 kd) (.int .i64 ea) (.int .i64 et) (.int .i64 ee))
      have HO6 := Lib.hid (HO5.out.spare (spare_end4 HX5.out.x (.int .u8 kd) (.int .i64 ea) (.int .i64 et) (.int .i64 ee)) (by decide) (by decide))
      refine resume ?_
      go_wp2_with fail
      have HE := Lib.hid (put_five HX6.out.r (.slice A rows.length c) (.int .u8 kd) (.int .i64 ea) (.int .i64 et) (.int .i64 ee))
      have HBE := Lib.hid (up_five HX6.out.below (.slice A rows.length c) (.int .u8 kd) (.int .i64 ea) (.int .i64 et) (.int .i64 ee))
      have HOE := Lib.hid (HO6.out.spare (spare_five HX6.out.r (.slice A rows.length c) (.int .u8 kd) (.int .i64 ea) (.int .i64 et) (.int .i64 ee)) (by decide) (by decide))
      obtain ⟨k0, k1, k2, k3, k4⟩ := HE.out.five
      refine bodyPost_ret (v := .tuple #[BlR.val ⟨A, c, rows, kd, ea, et, ee⟩, .int .i64 ((k : Int) + 1), .bool zb]) (by simp [results, Tryz.results106, go_sem, BlR.val, k0, k1, k2, k3, k4]) rfl ⟨HBE.out, ⟨A, c, rows, kd, ea, et, ee⟩, k + 1, by rw [HI.out, Option.isSome_map, HZ.out]; rfl, fun q hq => ?_⟩
      rw [HI.out] at hq
      cases o with
      | none => cases hq
      | some en =>
        injection hq with hq
        subst hq
        obtain ⟨e1, e2⟩ := HP.out en rfl
        subst e1
        exact ⟨rfl, ⟨e2, HOE.out⟩, rfl, by rw [HDL.out]; exact HLT.out⟩
    | false =>
      have hw : IntKind.i64.wrap (reg + (k : Int)) = reg + (k : Int) := IntWalk.i64_in _ (by omega)
      have hw2 : IntKind.i64.wrap ((k : Int) + 1) = (k : Int) + 1 := IntWalk.i64_in _ (by omega)
      have HI0 : Hid (∀ (o : Option PIns), insP r.data (reg + (k : Int)) = o → (o = none → K = none) ∧ ∀ y, o = some y → BlockTo (LsR.data ⟨some ⟨b, off, none⟩, lc, ls⟩) reg (rows.map InR.data ++ [y]) ((LsR.data ⟨some ⟨b, off, none⟩, lc, ls⟩).drop (k + 1))) := Lib.hid (fun o ho => by
       have hm : (k : Int) = ((rows.map InR.data).length : Int) := by rw [List.length_map, HRK.out]
       rw [← ins_tie, hm] at ho
       refine ⟨fun h0 => ?_, fun y hy => HBT2.out.step HEB.out (by rw [ho, hy])⟩
       rw [← HK.out]
       unfold blockA
       rw [HBT2.out.bad HEB.out (by rw [ho, h0])]
       rfl)
      obtain ⟨o, ho⟩ : ∃ o, insP r.data (reg + (k : Int)) = o := ⟨_, rfl⟩
      have HI1 := Lib.hid (HI0.out o ho)
      rw [ho] at HIN
      clear ho HI0
      unfold RfIns at HIN
      cases o with
      | none =>
        have HI := Lib.hid (HI1.out.1 rfl)
        dsimp only [Option.isSome] at HIN
        go_wp2_with (first
         | (go_at_call 143; refine (HIN.out _ HX.out.below).mono ?_; rintro e w4 ⟨hb4, p, rfl, hp⟩; obtain ⟨op, ty, ra, rb, rn, aa, ac, args, fa, fc, froms⟩ := p; have HX4 := Lib.hid (HX.out.call hb4); have HO4 := Lib.hid (HOW.out.keep hb4); clear hp hb4; dsimp only [InR.val]; refine pause ?_)
         | (go_at_call 141; refine (HIE.out _).mono ?_; rintro e w3 ⟨rfl, rfl⟩))
        clear c1 c2
        have HX5 := Lib.hid (HX4.out.new #[.int .u8 op, .int .i64 ty, .int .i64 ra, .int .i64 rb, .int .i64 rn, .slice aa args.length ac, .slice fa froms.length fc] 74)
        obtain ⟨x0, x1, x2, x3, x4⟩ := HX5.out.x.five
        have xz := HX5.out.x.free
        obtain ⟨r0, r1, r2, r3, r4⟩ := HX5.out.r.five
        have rz := HX5.out.r.free
        refine resume ?_
        go_wp2_with fail
        have HE := Lib.hid (put_five HX5.out.r (.slice A rows.length c) (.int .u8 0) (.int .i64 0) (.int .i64 0) (.int .i64 0))
        have HBE := Lib.hid (up_five HX5.out.below (.slice A rows.length c) (.int .u8 0) (.int .i64 0) (.int .i64 0) (.int .i64 0))
        obtain ⟨k0, k1, k2, k3, k4⟩ := HE.out.five
        exact bodyPost_ret (v := .tuple #[BlR.val ⟨A, c, rows, 0, 0, 0, 0⟩, .int .i64 0, .bool false]) (by simp [results, Tryz.results106, go_sem, BlR.val, k0, k1, k2, k3, k4]) rfl ⟨HBE.out, ⟨A, c, rows, 0, 0, 0, 0⟩, 0, by rw [HI.out]; rfl, fun q hq => by rw [HI.out] at hq; cases hq⟩
      | some y =>
        have HN := Lib.hid (HI1.out.2 y rfl)
        dsimp only [Option.isSome] at HIN
        clear HI1
        go_wp2_with (first
         | (go_at_call 143; refine (HIN.out _ HX.out.below).mono ?_; rintro e w4 ⟨hb4, p, rfl, hp⟩; have HP := Lib.hid (hp y rfl); obtain ⟨op, ty, ra, rb, rn, aa, ac, args, fa, fc, froms⟩ := p; have HX4 := Lib.hid (HX.out.call hb4); have HO4 := Lib.hid (HOW.out.keep hb4); clear hp hb4; dsimp only [InR.val]; refine pause ?_)
         | (go_at_call 141; refine (HIE.out _).mono ?_; rintro e w3 ⟨rfl, rfl⟩))
        clear c1 c2
        have HX5 := Lib.hid (HX4.out.new #[.int .u8 op, .int .i64 ty, .int .i64 ra, .int .i64 rb, .int .i64 rn, .slice aa args.length ac, .slice fa froms.length fc] 74)
        have HO5 := Lib.hid (HO4.out.keep (w' := (w4.alloc (.cells #[.int .u8 op, .int .i64 ty, .int .i64 ra, .int .i64 rb, .int .i64 rn, .slice aa args.length ac, .slice fa froms.length fc] 74))) ((Below.refl _ _).alloc (Nat.le_refl _) _))
        have HN5 : Hid (Blk (w4.alloc (.cells #[.int .u8 op, .int .i64 ty, .int .i64 ra, .int .i64 rb, .int .i64 rn, .slice aa args.length ac, .slice fa froms.length fc] 74)) w4.heap.size 74 #[.int .u8 op, .int .i64 ty, .int .i64 ra, .int .i64 rb, .int .i64 rn, .slice aa args.length ac, .slice fa froms.length fc]) := Lib.hid (Blk.new w4 _ _)
        have HRI : Hid (InR.Own (w4.alloc (.cells #[.int .u8 op, .int .i64 ty, .int .i64 ra, .int .i64 rb, .int .i64 rn, .slice aa args.length ac, .slice fa froms.length fc] 74)) w.heap.size ⟨op, ty, ra, rb, rn, aa, ac, args, fa, fc, froms⟩) := Lib.hid (((HP.out.2).more HX.out.below.size).keep ((Below.refl _ _).alloc (Nat.le_refl _) _))
        have HLB := Lib.hid HX5.out.below.size
        obtain ⟨x0, x1, x2, x3, x4⟩ := HX5.out.x.five
        have xz := HX5.out.x.free
        refine resume ?_
        go_wp2_with (at_builtin; refine wpList_appI rfl (.tmp 55) (.tmp 57) rfl w.heap.size _ rows ⟨op, ty, ra, rb, rn, aa, ac, args, fa, fc, froms⟩ rfl HO5.out (by rw [World.size_alloc]; rfl) HRI.out (by have := HRK.out; omega) HLB.out ?_; intro v8 w8 hown8 hg8; refine pause ?_)
        obtain ⟨rows2, hrows2⟩ : ∃ rows2, rows ++ [(⟨op, ty, ra, rb, rn, aa, ac, args, fa, fc, froms⟩ : InR)] = rows2 := ⟨_, rfl⟩
        rw [hrows2] at hown8
        have HRS := Lib.hid hrows2
        have HX8 := Lib.hid ((HX5.out.new #[.int .u8 op, .int .i64 ty, .int .i64 ra, .int .i64 rb, .int .i64 rn, .slice aa args.length ac, .slice fa froms.length fc] 74).grown (HO5.out.keep ((Below.refl _ _).alloc (Nat.le_refl _) _)) hg8)
        obtain ⟨A8, c8, rfl, _⟩ := hown8.form
        have HO8 := Lib.hid hown8
        clear hown8 hg8 hrows2 x0 x1 x2 x3 x4 xz
        have x0 : w8.cell? ⟨w.heap.size + 1, 0, none⟩ = some (.slice A rows.length c) := HX8.out.x.cells 0
        have xz := HX8.out.x.free
        refine resume ?_
        go_wp2_with fail
        have HX9 := Lib.hid (HX8.out.put0 (.slice A8 rows2.length c8))
        have HO9 := Lib.hid (HO8.out.spare (Spare.set HX8.out.x (j := 0) (.slice A8 rows2.length c8)) (by decide) (by decide))
        go_roundw
        case rel =>
         refine ⟨k + 1, rows2, A8, c8, by have := HLT.out; omega, by go_num, Lib.hid (by rw [← HRS.out, List.length_append, HRK.out]; rfl), HX9, HO9, ?_⟩
         have h := HN.out
         have e : rows.map InR.data ++ [y] = rows2.map InR.data := by
          rw [← HRS.out, List.map_append]
          exact congrArg (fun z => rows.map InR.data ++ [z]) HP.out.1.symm
         rw [e] at h
         exact Lib.hid h
        case measure => simp [intOf]; have := HLT.out; omega
  · obtain rfl : k = ls.length := by omega
    have HI : Hid (K = none) := Lib.hid (by
     have hb := HBT.out
     rw [← HDL.out, List.drop_length] at hb
     rw [← HK.out]
     unfold blockA
     rw [hb.stop]
     rfl)
    obtain ⟨x0, x1, x2, x3, x4⟩ := HX.out.x.five
    have xz := HX.out.x.free
    obtain ⟨r0, r1, r2, r3, r4⟩ := HX.out.r.five
    have rz := HX.out.r.free
    go_wp2_with fail
    have HE := Lib.hid (put_five HX.out.r (.slice A rows.length c) (.int .u8 0) (.int .i64 0) (.int .i64 0) (.int .i64 0))
    have HBE := Lib.hid (up_five HX.out.below (.slice A rows.length c) (.int .u8 0) (.int .i64 0) (.int .i64 0) (.int .i64 0))
    obtain ⟨k0, k1, k2, k3, k4⟩ := HE.out.five
    exact bodyPost_ret (v := .tuple #[BlR.val ⟨A, c, rows, 0, 0, 0, 0⟩, .int .i64 0, .bool false]) (by simp [results, Tryz.results106, go_sem, BlR.val, k0, k1, k2, k3, k4]) rfl ⟨HBE.out, ⟨A, c, rows, 0, 0, 0, 0⟩, 0, by rw [HI.out]; rfl, fun q hq => by rw [HI.out] at hq; cases hq⟩
structure SubTys (w : World) (lo : Nat) (v : Value) (rows : List TyR) : Prop where
 row : w.ownsRow lo 78 4 v rows.length (rows.flatMap TyR.cells4)
 inner : ∀ r ∈ rows, SubInts w lo r.pa r.pc r.parts ∧ r.kind ≤ 255
section
variable {w w' : World} {lo lo' : Nat} {v : Value} {rows : List TyR} {t : TypeId}
theorem SubTys.nil (w : World) (lo : Nat) : SubTys w lo (.slice none 0 0) [] := ⟨World.ownsRow_nil _ _ _ _, fun r hr => by cases hr⟩
theorem SubTys.keep (h : SubTys w lo v rows) (hb : Below w.heap.size w w') : SubTys w' lo v rows := ⟨ownsRow_keep h.row hb, fun r hr => ⟨(h.inner r hr).1.keep hb, (h.inner r hr).2⟩⟩
theorem SubTys.spare (h : SubTys w lo v rows) (hs : Spare t w w') (h1 : 3 ≠ t) (h2 : 78 ≠ t) : SubTys w' lo v rows := ⟨ownsRow_spare h.row hs h2, fun r hr => ⟨(h.inner r hr).1.spare hs h1, (h.inner r hr).2⟩⟩
theorem SubTys.more (h : SubTys w lo v rows) (hl : lo' ≤ lo) : SubTys w lo' v rows := ⟨ownsRow_more h.row hl, fun r hr => ⟨(h.inner r hr).1.more hl, (h.inner r hr).2⟩⟩
theorem SubTys.tab (h : SubTys w lo v rows) : ∃ A c, v = .slice A rows.length c ∧ TabIn w A c rows := by
 obtain ⟨A, c, hv, hle, hcap, hnil, hc⟩ := ownsRow_form h.row (by omega)
 refine ⟨A, c, hv, ⟨⟨hle, hcap, hnil⟩, ⟨(hc.congr fun i hi j hj => ?_).more (Nat.zero_le _) (Nat.le_refl _), fun r hr => ?_⟩⟩⟩
 · rw [flat_getD TyR.cells4 4 (fun _ => rfl) default rows i j hi hj]
   match j, hj with
   | 0, _ => rfl
   | 1, _ => rfl
   | 2, _ => rfl
   | 3, _ => rfl
 · obtain ⟨h1, h2⟩ := h.inner r hr
   exact ⟨h2, h1.hdr, h1.ints.more (Nat.zero_le _) (Nat.le_refl _)⟩
theorem SubTys.push {r : TyR} (h : SubTys w lo v rows) {v' : Value} (hr : w'.ownsRow lo 78 4 v' (rows.length + 1) (rows.flatMap TyR.cells4 ++ r.cells4))
    (hg : w.grownBy w' v.ownBlock) (hi : SubInts w lo r.pa r.pc r.parts) (hk : r.kind ≤ 255) : SubTys w' lo v' (rows ++ [r]) := by
 have hs : Spare 78 w w' := Spare.grown h.row hg
 refine ⟨by rw [List.length_append, List.flatMap_append]; simpa using hr, fun q hq => ?_⟩
 rcases List.mem_append.1 hq with hq | hq
 · obtain ⟨h1, h2⟩ := h.inner q hq
   exact ⟨h1.spare hs (by decide), h2⟩
 · obtain rfl := List.mem_singleton.1 hq
   exact ⟨hi.spare hs (by decide), hk⟩
theorem wpList_appSub {w : World} {ops : Array Oper} {rest : List Oper} {o : Oper} {a : Act} {Q : Exit → Act → World → Prop} (hgd : o.guard = none) (s x : Operand)
    (ho : o.op = .call { callee := .builtin .append, args := #[s, x], argTypes := #[22, 22] })
    (lo : Nat) (v : Value) (rows : List TyR) (r : TyR) (hs : a.eval s = v) (hown : SubTys w lo v rows) (hx : a.eval x = .slice (some ⟨w.heap.size, 0, none⟩) 1 1) (hr : SubInts w lo r.pa r.pc r.parts) (hk : r.kind ≤ 255)
    (hlen : rows.length ≤ 1000000) (hbase : lo ≤ w.heap.size)
    (h : ∀ v' w', SubTys w' lo v' (rows ++ [r]) → (w.alloc (.cells #[.int .u8 r.kind, .int .i64 r.elem, .int .i64 r.many, .slice r.pa r.parts.length r.pc] 78)).grownBy w' v.ownBlock → wpList Tryz.prog ops Q rest (a.put o.dst v') w') : wpList Tryz.prog ops Q (o :: rest) a (w.alloc (.cells #[.int .u8 r.kind, .int .i64 r.elem, .int .i64 r.many, .slice r.pa r.parts.length r.pc] 78)) := by
 obtain ⟨i0, hi, hz0, hz1, hz2⟩ := info_parts typeInfo
 refine wpList_appS hgd s x 22 78 ho i0 _ 4 48 Tryz.underlying22 hi hz0 hz1 hz2 rfl (by decide) lo v rows.length _ hs hown.row _ hx rfl ?_ hlen (by decide) hbase ?_
 · intro u hu
   simp at hu
   rcases hu with rfl | rfl | rfl | rfl <;> rfl
 · intro v' w' h1 h2
   have hb0 : Below w.heap.size w (w.alloc (.cells #[.int .u8 r.kind, .int .i64 r.elem, .int .i64 r.many, .slice r.pa r.parts.length r.pc] 78)) := (Below.refl _ _).alloc (Nat.le_refl _) _
   exact h v' w' (SubTys.push (hown.keep hb0) h1 h2 (hr.keep hb0) hk) h2
end
def RfFun (w : World) (L : List (List Bs)) (o : Option (PFun × List (List Bs))) (e : Ending) (w' : World) : Prop :=
 Below w.heap.size w w' ∧ ∃ (r : FuR) (n : Nat), e = .returned (.tuple #[r.val, .int .i64 n, .bool o.isSome]) ∧ ∀ q, o = some q → r.data = q.1 ∧ r.Own w' w.heap.size ∧ q.2 = L.drop n ∧ n ≤ L.length
structure FunBox (w W : World) (p0 p1 x0 x1 : Value) : Prop where
 below : Below w.heap.size w W
 p : Blk W w.heap.size 25 #[p0, p1]
 r : Blk W (w.heap.size + 1) 64 #[.int .i64 0, .slice none 0 0]
 x : Blk W (w.heap.size + 2) 64 #[x0, x1]
theorem Blk.new3 (w : World) (o o' : Obj) (t : TypeId) (cs : Array Value) : Blk (((w.alloc o).alloc o').alloc (.cells cs t)) (w.heap.size + 2) t cs := by
 have h := Blk.new ((w.alloc o).alloc o') t cs
 rw [World.size_alloc, World.size_alloc] at h
 exact h
section
variable {w W W' : World} {p0 p1 x0 x1 : Value}
theorem FunBox.start (w : World) (p0 p1 x0 x1 : Value) : FunBox w (((w.alloc (.cells #[p0, p1] 25)).alloc (.cells #[.int .i64 0, .slice none 0 0] 64)).alloc (.cells #[x0, x1] 64)) p0 p1 x0 x1 :=
 ⟨(((Below.refl _ _).alloc (Nat.le_refl _) _).alloc (by rw [World.size_alloc]; omega) _).alloc (by rw [World.size_alloc, World.size_alloc]; omega) _, ((Blk.new w _ _).alloc _).alloc _, (Blk.new2 w _ _ _).alloc _, Blk.new3 w _ _ _ _⟩
theorem FunBox.call (h : FunBox w W p0 p1 x0 x1) (hb : Below W.heap.size W W') : FunBox w W' p0 p1 x0 x1 :=
 ⟨h.below.trans (hb.mono h.below.size), h.p.beneath hb, h.r.beneath hb, h.x.beneath hb⟩
theorem FunBox.new (h : FunBox w W p0 p1 x0 x1) (cs : Array Value) (t : TypeId) : FunBox w (W.alloc (.cells cs t)) p0 p1 x0 x1 := h.call ((Below.refl _ _).alloc (Nat.le_refl _) _)
theorem FunBox.put1 (h : FunBox w W p0 p1 x0 x1) (a : Value) : FunBox w (W.setCell ⟨w.heap.size + 2, 1, none⟩ a) p0 p1 x0 a :=
 ⟨h.below.setCell (p := ⟨w.heap.size + 2, 1, none⟩) (by show _ ≤ w.heap.size + 2; omega) a, h.p.far (p := ⟨w.heap.size + 2, 1, none⟩) (by show w.heap.size ≠ w.heap.size + 2; omega) a, h.r.far (p := ⟨w.heap.size + 2, 1, none⟩) (by show w.heap.size + 1 ≠ w.heap.size + 2; omega) a, h.x.put 1 a⟩
theorem FunBox.grown (h : FunBox w W p0 p1 x0 x1) {v : Value} {rows : List BlR} (ho : OwnBls W w.heap.size v rows) (hg : W.grownBy W' v.ownBlock) : FunBox w W' p0 p1 x0 x1 :=
 ⟨Below.grown h.below hg h.below.size (fun k hk => (ho.row.lt k hk).1), Blk.grown h.p hg (own_ne ho.row h.p (by decide)), Blk.grown h.r hg (own_ne ho.row h.r (by decide)), Blk.grown h.x hg (own_ne ho.row h.x (by decide))⟩
theorem up_two {g : Nat} (h : Below w.heap.size w W) (hg : w.heap.size ≤ g) (a0 a1 : Value) : Below w.heap.size w ((W.setCell ⟨g, 0, none⟩ a0).setCell ⟨g, 1, none⟩ a1) :=
 (h.setCell (p := ⟨g, 0, none⟩) hg a0).setCell (p := ⟨g, 1, none⟩) hg a1
theorem put_two {g : Nat} {t : TypeId} (h : Blk W g t #[x0, x1]) (a0 a1 : Value) : Blk ((W.setCell ⟨g, 0, none⟩ a0).setCell ⟨g, 1, none⟩ a1) g t #[a0, a1] := (h.put 0 a0).put 1 a1
theorem spare_two {g : Nat} {t : TypeId} (h : Blk W g t #[x0, x1]) (a0 a1 : Value) : Spare t W ((W.setCell ⟨g, 0, none⟩ a0).setCell ⟨g, 1, none⟩ a1) := (Spare.set h a0).trans (Spare.set (h.put 0 a0) a1)
end
set_option maxRecDepth 100000 in
set_option maxHeartbeats 6400000 in
theorem rffun_any {w : World} {l : LsR} (h : l.Ok w) (hl : LOk l) {ta : Option Addr} {tc : Nat} {types : List TyR} (hT : TabIn w ta tc types) (hfew : ∀ t ∈ types, t.parts.length ≤ 20000) (fa : Option Addr) (nf fc : Nat) (sg : Nat) (hsg : sg ≤ 1000) :
    Calls Tryz.prog 66 #[.agg #[.slice ta types.length tc, .slice fa nf fc], .int .i64 (sg : Int), .slice l.a l.rows.length l.c] w (RfFun w l.data ((blocksR l.data (regOf (tbl types) (sg : Int))).map fun z => (⟨(sg : Int), z.1⟩, z.2))) := by
 have HX0 := Lib.hid (FunBox.start w (.slice ta types.length tc) (.slice fa nf fc) (.int .i64 (sg : Int)) (.slice none 0 0))
 have HO := Lib.hid h
 have HL := Lib.hid hl
 have hlen := hl.len
 have HDL : Hid (l.data.length = l.rows.length) := Lib.hid (List.length_map ..)
 have HDA : Hid (l.data = l.rows.map LnR.data) := Lib.hid rfl
 obtain ⟨r0, hr0⟩ : ∃ r0, regOf (tbl types) (sg : Int) = r0 := ⟨_, rfl⟩
 have HR0 : Hid (0 ≤ r0 ∧ r0 ≤ 20000) := Lib.hid (by
  rw [← hr0]
  unfold regOf
  split
  · rename_i hlt
    rw [tbl_len] at hlt
    have hk : sg < types.length := by omega
    have := hfew _ (mem_getD (d := default) hk)
    rw [show ((sg : Int)).toNat = sg from rfl, tbl_at hk]
    show (0 : Int) ≤ ((types.getD sg default).parts.length : Int) ∧ _
    exact ⟨by omega, by show ((types.getD sg default).parts.length : Int) ≤ 20000; omega⟩
  · omega)
 have HR1 : Hid ((∃ (b off : Nat) (q : TyR), sg < types.length ∧ ta = some ⟨b, off, none⟩ ∧ b < w.heap.size ∧ w.cell? ⟨b, off + sg * 4 + 3, none⟩ = some (.slice q.pa q.parts.length q.pc) ∧ r0 = q.parts.length) ∨ (types.length ≤ sg ∧ r0 = 0)) := Lib.hid (by
  by_cases hk : sg < types.length
  · obtain ⟨b, off, e, hb, d0, d1, d2, d3⟩ := hT.rows.elem hk
    refine .inl ⟨b, off, types.getD sg default, hk, e, hb, d3, ?_⟩
    rw [← hr0]
    unfold regOf
    rw [tbl_len, if_pos (by omega), show ((sg : Int)).toNat = sg from rfl, tbl_at hk]
    rfl
  · refine .inr ⟨by omega, ?_⟩
    rw [← hr0]
    unfold regOf
    rw [tbl_len, if_neg (by omega)])
 obtain ⟨K, hK⟩ : ∃ K, blocksR l.data r0 = K := ⟨_, rfl⟩
 rw [hr0, hK]
 have HK := Lib.hid hK
 have hcle := hT.len
 have hlc : l.c ≤ 9223372036854775807 := by have := h.hdr.cap; unfold maxLen at this; exact this
 have hlf : l.rows.length ≤ l.c := h.hdr.fit
 obtain ⟨D, hD⟩ : ∃ D, l.data = D := ⟨_, rfl⟩
 rw [hD] at HDL HDA HK ⊢
 clear h hl hK hr0 hT hfew hD
 obtain ⟨LA, lc, ls⟩ := l
 dsimp only at *
 go_enter Tryz.func66, Tryz.ntmps66
 go_upto_if 21 with fail
 go_cut [10] from 21 to 28 (fun s10 wx => s10 = .int .i64 r0 ∧ Hid (FunBox w wx (.slice ta types.length tc) (.slice fa nf fc) (.int .i64 (sg : Int)) (.slice none 0 0)))
 case first =>
  have q0 : (0 : Int) ≤ (sg : Int) := Int.natCast_nonneg _
  rcases HR1.out with ⟨b, off, q, hk, rfl, hb, hc, rfl⟩ | ⟨hk, rfl⟩
  · have q1 : (sg : Int) < (types.length : Int) := by omega
    have hd := (HX0.out.below.cell (p := ⟨b, off + sg * 4 + 3, none⟩) hb).trans hc
    obtain ⟨qk, qe, qm, qa, qc, qp⟩ := q
    dsimp only at hd ⊢
    clear hc
    go_wp2_with fail
    go_meet
    exact ⟨rfl, HX0⟩
  · have q1 : ¬ (sg : Int) < (types.length : Int) := by omega
    go_wp2_with fail
    go_meet
    exact ⟨rfl, HX0⟩
 case rest =>
  obtain ⟨rfl, HXc⟩ := hcut
  clear HX0 HR1
  go_wp2_with fail
  go_loopw [10, 11] (fun v i wr => ∃ (a : Nat) (bs : List BlR) (A : Option Addr) (c : Nat) (r : Int), a ≤ ls.length ∧ i = .int .i64 a ∧ v = .int .i64 r ∧ 0 ≤ r ∧ r ≤ 20000 + a ∧ Hid (bs.length ≤ a) ∧ Hid (FunBox w wr (.slice ta types.length tc) (.slice fa nf fc) (.int .i64 (sg : Int)) (.slice A bs.length c)) ∧ Hid (OwnBls wr w.heap.size (.slice A bs.length c) bs) ∧ Hid (BlocksTo D r0 (bs.map BlR.data) (D.drop a) r)) (fun _ i _ => ls.length - (intOf i).toNat)
  case atStart => exact ⟨0, [], none, 0, r0, Nat.zero_le _, rfl, rfl, HR0.out.1, by have := HR0.out.2; omega, Lib.hid (Nat.le_refl _), HXc, Lib.hid (OwnBls.nil _ _), Lib.hid (BlocksTo.start _ _)⟩
  case round =>
   obtain ⟨a, bs, A, c, r, ha, rfl, rfl, hr1, hr2, HBL, HX, HOW, HBT⟩ := hrel
   have q0 : (0 : Int) ≤ (a : Int) := Int.natCast_nonneg _
   by_cases hlt : a < ls.length
   · have HLT := Lib.hid hlt
     obtain ⟨b, off, rw_, hla, hbw, hcell, hrok, hdrop, hmem⟩ := HO.out.nth hlt
     have hla : LA = some ⟨b, off, none⟩ := hla
     subst hla
     have HCL := Lib.hid hcell
     have HBW := Lib.hid hbw
     have hr0' : 0 < rw_.xs.length := (HL.out.full rw_ hmem).1
     have HDD : Hid (D.drop a = rw_.data :: D.drop (a + 1)) := Lib.hid (by
      rw [HDA.out, ← List.map_drop, ← List.map_drop]
      exact (congrArg (List.map LnR.data) hdrop))
     obtain ⟨b2, o2, s0, ha2, hb2, hc2, hxs, _⟩ := hrok.first hr0'
     have HC2 := Lib.hid hc2
     have HB2 := Lib.hid hb2
     have HBB : Hid (isBlockP (D.drop a) = (s0.toList == [98, 108, 111, 99, 107])) := Lib.hid (by
      rw [HDD.out, ByteArray.toList_eq]
      show (List.headD (rw_.xs.map toL) [] == bBlock) = _
      rw [hxs]
      rfl)
     have c1 : wr.cell? ⟨b, off + a, none⟩ = some (.slice rw_.a rw_.xs.length rw_.c) := (HX.out.below.cell (p := ⟨b, off + a, none⟩) HBW.out).trans HCL.out
     have c2 : wr.cell? ⟨b2, o2, none⟩ = some (.string s0) := (HX.out.below.cell (p := ⟨b2, o2, none⟩) HB2.out).trans HC2.out
     rw [ha2] at c1
     have HRL : Hid (rw_.data.length = rw_.xs.length) := Lib.hid (List.length_map ..)
     clear hcell hbw hrok hdrop hmem hc2 hb2 hxs HCL HC2 HB2
     have q1 : (a : Int) < (ls.length : Int) := by omega
     have q2 : (0 : Int) < (rw_.xs.length : Int) := by omega
     obtain ⟨b0, hb0⟩ : ∃ b0, (s0.toList == [98, 108, 111, 99, 107]) = b0 := ⟨_, rfl⟩
     rw [hb0] at HBB
     cases b0 with
     | false =>
       have HI : Hid (K = some (bs.map BlR.data, D.drop a)) := Lib.hid (by rw [← HK.out]; exact HBT.out.done HBB.out)
       obtain ⟨x0, x1⟩ := HX.out.x.two
       have xz := HX.out.x.free
       obtain ⟨r0_, r1_⟩ := HX.out.r.two
       have rz := HX.out.r.free
       clear hlt hr0'
       go_wp2_with fail
       have HE := Lib.hid (put_two HX.out.r (.int .i64 (sg : Int)) (.slice A bs.length c))
       have HBE := Lib.hid (up_two HX.out.below (Nat.le_succ _) (.int .i64 (sg : Int)) (.slice A bs.length c))
       obtain ⟨k0, k1⟩ := HE.out.two
       exact bodyPost_ret (v := .tuple #[FuR.val ⟨(sg : Int), A, c, bs⟩, .int .i64 a, .bool true]) (by simp [results, Tryz.results66, go_sem, FuR.val, k0, k1]) rfl ⟨HBE.out, ⟨(sg : Int), A, c, bs⟩, a, by rw [HI.out]; rfl, fun q hq => by rw [HI.out] at hq; injection hq with hq; subst hq; exact ⟨rfl, HOW.out.spare (spare_two HX.out.r _ _) (by decide) (by decide) (by decide), rfl, by rw [HDL.out]; exact ha⟩⟩
     | true =>
       by_cases h1 : rw_.xs.length = 1
       · have HH1 : Hid (((D.drop a).headD []).length = 1) := Lib.hid (by rw [HDD.out]; show rw_.data.length = 1; rw [HRL.out]; exact h1)
         rw [h1] at c1 q2
         have hw : IntKind.i64.wrap ((a : Int) + 1) = ((a + 1 : Nat) : Int) := IntWalk.i64_in _ (by omega)
         have HBLK := Lib.hid (fun W (hb : Below w.heap.size w W) => rfblock_any ((HO.out.on hb).cut (n := a + 1) rfl HLT.out) (HL.out.cut (a + 1) _ _) r hr1 (by omega))
         have hld : (LsR.mk (if lc = a + 1 then (some ⟨b, off, none⟩ : Option Addr) else some ⟨b, off + (a + 1), none⟩) (lc - (a + 1)) (ls.drop (a + 1))).data = D.drop (a + 1) := by
          rw [HDA.out, ← List.map_drop]
          rfl
         dsimp only at HBLK
         rw [hld, List.length_drop] at HBLK
         obtain ⟨o, ho⟩ : ∃ o, blockA (D.drop (a + 1)) r = o := ⟨_, rfl⟩
         rw [ho] at HBLK
         have HOA := Lib.hid ho
         clear hld ho h1 hlt hr0'
         unfold RfBlock at HBLK
         have HDD1 : Hid ((D.drop a).drop 1 = D.drop (a + 1)) := Lib.hid (by rw [List.drop_drop])
         have y1 : a + 1 ≤ ls.length := HLT.out
         have y2 : ((a + 1 : Nat) : Int) ≤ (ls.length : Int) := by omega
         have y3 : ((a + 1 : Nat) : Int) ≤ (lc : Int) := by omega
         have y4 : a + 1 ≤ lc := by omega
         by_cases hcc : lc = a + 1
         · have HB1 : Hid (∀ W, Below w.heap.size w W → _) := Lib.hid (fun W hb => by
            have h := HBLK.out W hb
            rw [if_pos hcc] at h
            exact h)
           clear HBLK
           subst hcc
           have HB1 := Lib.hid (fun W hb => by
            have h := HB1.out W hb
            rw [Nat.sub_self, show ls.length - (a + 1) = 0 by omega] at h
            exact h)
           have hon : o = none := by
            rw [← HOA.out, List.drop_eq_nil_of_le (by rw [HDL.out]; omega)]
            rfl
           subst hon
           have HI : Hid (K = none) := Lib.hid (by
            rw [← HK.out]
            refine HBT.out.bad2 HBB.out ?_
            rw [HDD1.out]
            have h := HOA.out
            unfold blockA at h
            cases hb : blockQ (D.drop (a + 1)) r with
            | none => rfl
            | some q => rw [hb] at h; cases h)
           dsimp only [Option.isSome] at HB1
           go_wp2_with (go_at_call 106; refine (HB1.out _ HX.out.below).mono ?_; rintro e w4 ⟨hb4, p, n, rfl, hp⟩; obtain ⟨ia, ic, ins, kd, ea, et, ee⟩ := p; have HX4 := Lib.hid (HX.out.call hb4); have HO4 := Lib.hid (HOW.out.keep hb4); clear hp hb4; dsimp only [BlR.val]; refine pause ?_)
           clear c1 c2
           have HX5 := Lib.hid (HX4.out.new #[.slice ia ins.length ic, .int .u8 kd, .int .i64 ea, .int .i64 et, .int .i64 ee] 71)
           obtain ⟨x0, x1⟩ := HX5.out.x.two
           have xz := HX5.out.x.free
           obtain ⟨r0_, r1_⟩ := HX5.out.r.two
           have rz := HX5.out.r.free
           refine resume ?_
           go_wp2_with fail
           have HE := Lib.hid (put_two HX5.out.r (.int .i64 (sg : Int)) (.slice A bs.length c))
           have HBE := Lib.hid (up_two HX5.out.below (Nat.le_succ _) (.int .i64 (sg : Int)) (.slice A bs.length c))
           obtain ⟨k0, k1⟩ := HE.out.two
           exact bodyPost_ret (v := .tuple #[FuR.val ⟨(sg : Int), A, c, bs⟩, .int .i64 0, .bool false]) (by simp [results, Tryz.results66, go_sem, FuR.val, k0, k1]) rfl ⟨HBE.out, ⟨(sg : Int), A, c, bs⟩, 0, by rw [HI.out]; rfl, fun q hq => by rw [HI.out] at hq; cases hq⟩
         · have HB1 : Hid (∀ W, Below w.heap.size w W → _) := Lib.hid (fun W hb => by
            have h := HBLK.out W hb
            rw [if_neg hcc] at h
            exact h)
           clear HBLK
           cases o with
           | none =>
             have HI : Hid (K = none) := Lib.hid (by
              rw [← HK.out]
              refine HBT.out.bad2 HBB.out ?_
              rw [HDD1.out]
              have h := HOA.out
              unfold blockA at h
              cases hb : blockQ (D.drop (a + 1)) r with
              | none => rfl
              | some q => rw [hb] at h; cases h)
             dsimp only [Option.isSome] at HB1
             go_wp2_with (go_at_call 106; refine (HB1.out _ HX.out.below).mono ?_; rintro e w4 ⟨hb4, p, n, rfl, hp⟩; obtain ⟨ia, ic, ins, kd, ea, et, ee⟩ := p; have HX4 := Lib.hid (HX.out.call hb4); have HO4 := Lib.hid (HOW.out.keep hb4); clear hp hb4; dsimp only [BlR.val]; refine pause ?_)
             clear c1 c2
             have HX5 := Lib.hid (HX4.out.new #[.slice ia ins.length ic, .int .u8 kd, .int .i64 ea, .int .i64 et, .int .i64 ee] 71)
             obtain ⟨x0, x1⟩ := HX5.out.x.two
             have xz := HX5.out.x.free
             obtain ⟨r0_, r1_⟩ := HX5.out.r.two
             have rz := HX5.out.r.free
             refine resume ?_
             go_wp2_with fail
             have HE := Lib.hid (put_two HX5.out.r (.int .i64 (sg : Int)) (.slice A bs.length c))
             have HBE := Lib.hid (up_two HX5.out.below (Nat.le_succ _) (.int .i64 (sg : Int)) (.slice A bs.length c))
             obtain ⟨k0, k1⟩ := HE.out.two
             exact bodyPost_ret (v := .tuple #[FuR.val ⟨(sg : Int), A, c, bs⟩, .int .i64 0, .bool false]) (by simp [results, Tryz.results66, go_sem, FuR.val, k0, k1]) rfl ⟨HBE.out, ⟨(sg : Int), A, c, bs⟩, 0, by rw [HI.out]; rfl, fun q hq => by rw [HI.out] at hq; cases hq⟩
           | some q =>
             obtain ⟨blk, L2⟩ := q
             dsimp only [Option.isSome] at HB1
             go_wp2_with (go_at_call 106; refine (HB1.out _ HX.out.below).mono ?_; rintro e w4 ⟨hb4, p, n, rfl, hp⟩; obtain ⟨ia, ic, ins, kd, ea, et, ee⟩ := p; have HP := Lib.hid (hp (blk, L2) rfl); have HX4 := Lib.hid (HX.out.call hb4); have HO4 := Lib.hid (HOW.out.keep hb4); clear hp hb4; dsimp only [BlR.val]; refine pause ?_)
             clear c1 c2
             have HX5 := Lib.hid (HX4.out.new #[.slice ia ins.length ic, .int .u8 kd, .int .i64 ea, .int .i64 et, .int .i64 ee] 71)
             have HO5 := Lib.hid (HO4.out.keep (w' := (w4.alloc (.cells #[.slice ia ins.length ic, .int .u8 kd, .int .i64 ea, .int .i64 et, .int .i64 ee] 71))) ((Below.refl _ _).alloc (Nat.le_refl _) _))
             have HBO : Hid (BlR.Own (w4.alloc (.cells #[.slice ia ins.length ic, .int .u8 kd, .int .i64 ea, .int .i64 et, .int .i64 ee] 71)) w.heap.size ⟨ia, ic, ins, kd, ea, et, ee⟩) := Lib.hid ⟨HP.out.2.1.kind, (HP.out.2.1.ins.more HX.out.below.size).keep ((Below.refl _ _).alloc (Nat.le_refl _) _)⟩
             have HLB := Lib.hid HX5.out.below.size
             obtain ⟨x0, x1⟩ := HX5.out.x.two
             have xz := HX5.out.x.free
             have HQ : Hid (∃ xs en, blockQ (D.drop (a + 1)) r = some (xs, en, L2) ∧ blk = ⟨xs, en⟩) := Lib.hid (by
              have h := HOA.out
              unfold blockA at h
              cases hb : blockQ (D.drop (a + 1)) r with
              | none => rw [hb] at h; cases h
              | some q =>
                rw [hb] at h
                injection h with h
                injection h with h1 h2
                subst h1 h2
                exact ⟨q.1, q.2.1, rfl, rfl⟩)
             have HIL : Hid (∃ xs en, blockQ (D.drop (a + 1)) r = some (xs, en, L2) ∧ ins.map InR.data = xs ∧ BlR.data ⟨ia, ic, ins, kd, ea, et, ee⟩ = ⟨xs, en⟩ ∧ xs.length + 1 + L2.length = ls.length - (a + 1)) := Lib.hid (by
              obtain ⟨xs, en, h1, h2⟩ := HQ.out
              have h3 := HP.out.1
              have h4 := blockQ_len _ _ _ h1
              rw [List.length_drop, HDL.out] at h4
              refine ⟨xs, en, h1, ?_, h3.trans h2, h4⟩
              have h5 := h3.trans h2
              injection h5 with h5 _)
             have hnn : n + L2.length = ls.length - (a + 1) ∧ n ≤ ls.length - (a + 1) := by
              have h1 := HP.out.2.2.1
              have h2 := HP.out.2.2.2
              rw [List.length_drop, HDL.out] at h2
              have h1 : L2 = (D.drop (a + 1)).drop n := h1
              have h3 : L2.length = ls.length - (a + 1) - n := by rw [h1, List.length_drop, List.length_drop, HDL.out]
              omega
             have hil : ins.length + 1 ≤ n := by
              obtain ⟨xs, en, h1, h2, h3, h4⟩ := HIL.out
              rw [← h2, List.length_map] at h4
              omega
             obtain ⟨hn1, hn2⟩ := hnn
             have HN1 := Lib.hid hn1
             have hw2 : IntKind.i64.wrap (r + (ins.length : Int)) = r + (ins.length : Int) := IntWalk.i64_in _ (by omega)
             have hw3 : IntKind.i64.wrap (((a + 1 : Nat) : Int) + (n : Int)) = ((a + 1 + n : Nat) : Int) := IntWalk.i64_in _ (by omega)
             refine resume ?_
             go_wp2_with (at_builtin; refine wpList_appBl rfl (.tmp 63) (.tmp 65) rfl w.heap.size _ bs ⟨ia, ic, ins, kd, ea, et, ee⟩ rfl HO5.out (by rw [World.size_alloc]; rfl) HBO.out (by have := HBL.out; omega) HLB.out ?_; intro v8 w8 hown8 hg8; refine pause ?_)
             obtain ⟨bs2, hbs2⟩ : ∃ bs2, bs ++ [(⟨ia, ic, ins, kd, ea, et, ee⟩ : BlR)] = bs2 := ⟨_, rfl⟩
             rw [hbs2] at hown8
             have HRS := Lib.hid hbs2
             have hspb : Blk ((w4.alloc (.cells #[.slice ia ins.length ic, .int .u8 kd, .int .i64 ea, .int .i64 et, .int .i64 ee] 71)).alloc (.cells #[.slice ia ins.length ic, .int .u8 kd, .int .i64 ea, .int .i64 et, .int .i64 ee] 71)) w4.heap.size 71 #[.slice ia ins.length ic, .int .u8 kd, .int .i64 ea, .int .i64 et, .int .i64 ee] := (Blk.new w4 _ _).alloc _
             have HX8 := Lib.hid ((HX5.out.new #[.slice ia ins.length ic, .int .u8 kd, .int .i64 ea, .int .i64 et, .int .i64 ee] 71).grown (HO5.out.keep ((Below.refl _ _).alloc (Nat.le_refl _) _)) hg8)
             obtain ⟨A8, c8, rfl, _⟩ := hown8.form
             have HO8 := Lib.hid hown8
             have n0 : w8.cell? ⟨w4.heap.size, 0, none⟩ = some (.slice ia ins.length ic) := (Blk.grown hspb hg8 (fun e => absurd (HO4.out.row.lt _ e).2 (Nat.lt_irrefl _))).cells 0
             clear hown8 hg8 hbs2 hspb x0 x1 xz
             have x1 : w8.cell? ⟨w.heap.size + 2, 1, none⟩ = some (.slice A bs.length c) := HX8.out.x.cells 1
             have xz := HX8.out.x.free
             refine resume ?_
             go_wp2_with fail
             have HX9 := Lib.hid (HX8.out.put1 (.slice A8 bs2.length c8))
             have HO9 := Lib.hid (HO8.out.spare (Spare.set HX8.out.x (j := 1) (.slice A8 bs2.length c8)) (by decide) (by decide) (by decide))
             go_roundw
             case rel =>
              refine ⟨a + 1 + n, bs2, A8, c8, r + (ins.length : Int), by have := HN1.out; omega, by first | rfl | go_num, by first | rfl | go_num, by omega, by omega, Lib.hid (by rw [← HRS.out, List.length_append]; have := HBL.out; show bs.length + 1 ≤ _; omega), HX9, HO9, Lib.hid ?_⟩
              obtain ⟨xs, en, h1, h2, h3, h4⟩ := HIL.out
              have h5 := HBT.out.step HBB.out HH1.out (by rw [HDD1.out]; exact h1)
              rw [← HRS.out, List.map_append]
              have e1 : ([(⟨ia, ic, ins, kd, ea, et, ee⟩ : BlR)]).map BlR.data = [⟨xs, en⟩] := congrArg (fun z => [z]) h3
              rw [e1]
              have e2 : L2 = D.drop (a + 1 + n) := by
               have h6 : L2 = (D.drop (a + 1)).drop n := HP.out.2.2.1
               rw [h6, List.drop_drop]
              rw [← h2, List.length_map, e2] at h5
              rw [← h2]
              exact h5
             case measure => simp [intOf]; have := HN1.out; omega
       · have HI : Hid (K = none) := Lib.hid (by
          rw [← HK.out]
          refine HBT.out.bad1 HBB.out fun h => h1 ?_
          rw [HDD.out] at h
          have h : rw_.data.length = 1 := h
          rw [← HRL.out]
          exact h)
         have y1 : ((rw_.xs.length : Int) == 1) = false := by rw [beq_eq_false_iff_ne]; omega
         have y2 : ((rw_.xs.length : Int) != 1) = true := by rw [bne_iff_ne]; omega
         have y3 : ¬ (rw_.xs.length : Int) = 1 := by omega
         obtain ⟨x0, x1⟩ := HX.out.x.two
         have xz := HX.out.x.free
         obtain ⟨r0_, r1_⟩ := HX.out.r.two
         have rz := HX.out.r.free
         clear hlt hr0' h1
         go_wp2_with fail
         have HE := Lib.hid (put_two HX.out.r (.int .i64 (sg : Int)) (.slice A bs.length c))
         have HBE := Lib.hid (up_two HX.out.below (Nat.le_succ _) (.int .i64 (sg : Int)) (.slice A bs.length c))
         obtain ⟨k0, k1⟩ := HE.out.two
         exact bodyPost_ret (v := .tuple #[FuR.val ⟨(sg : Int), A, c, bs⟩, .int .i64 0, .bool false]) (by simp [results, Tryz.results66, go_sem, FuR.val, k0, k1]) rfl ⟨HBE.out, ⟨(sg : Int), A, c, bs⟩, 0, by rw [HI.out]; rfl, fun q hq => by rw [HI.out] at hq; cases hq⟩
   · obtain rfl : a = ls.length := by omega
     have HI : Hid (K = some (bs.map BlR.data, D.drop ls.length)) := Lib.hid (by
      rw [← HK.out]
      refine HBT.out.done ?_
      rw [← HDL.out, List.drop_length]
      rfl)
     obtain ⟨x0, x1⟩ := HX.out.x.two
     have xz := HX.out.x.free
     obtain ⟨r0_, r1_⟩ := HX.out.r.two
     have rz := HX.out.r.free
     go_wp2_with fail
     have HE := Lib.hid (put_two HX.out.r (.int .i64 (sg : Int)) (.slice A bs.length c))
     have HBE := Lib.hid (up_two HX.out.below (Nat.le_succ _) (.int .i64 (sg : Int)) (.slice A bs.length c))
     obtain ⟨k0, k1⟩ := HE.out.two
     exact bodyPost_ret (v := .tuple #[FuR.val ⟨(sg : Int), A, c, bs⟩, .int .i64 ls.length, .bool true]) (by simp [results, Tryz.results66, go_sem, FuR.val, k0, k1]) rfl ⟨HBE.out, ⟨(sg : Int), A, c, bs⟩, ls.length, by rw [HI.out]; rfl, fun q hq => by rw [HI.out] at hq; injection hq with hq; subst hq; exact ⟨rfl, HOW.out.spare (spare_two HX.out.r _ _) (by decide) (by decide) (by decide), rfl, by rw [HDL.out]; exact ha⟩⟩
end Go.Proofs.YtbffebcjimhapaaGreatDoor
