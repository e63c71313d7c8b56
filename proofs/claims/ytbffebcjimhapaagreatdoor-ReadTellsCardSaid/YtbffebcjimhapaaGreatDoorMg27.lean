/-
  A region that draws its order (HeldT): an operation taken whose temporary is named. And what stands on it: RfHasG, RfHas.
-/
import Derived.Test.YtbffebcjimhapaaGreatDoorMg17
import Derived.Test.YtbffebcjimhapaaGreatDoorMg26
namespace Go.Proofs.YtbffebcjimhapaaGreatDoor
set_option linter.unusedVariables false
set_option linter.unusedSimpArgs false
section
variable {P : Program} {ops : Array Oper} {Q : Exit → Act → World → Prop} {md : Region.Mode} {S : World → Prop} {last : Nat}
theorem wpAnyT_takeD {i : Nat} {d : Tmp} {oi : Oper} {v : Value} {fuel : Nat} {listed : Array Bool} {a : Act} {w : World} (hl : Region.waitsFor md ops last i = true) (hil : i ≠ last) (hi : ops[i]? = some oi) (hd : oi.dst = some d)
    (hs : Region.noSelect ops = true) (hf : Region.free md ops listed i = true) (hr : (Region.ready md ops listed).contains i = true)
    (hQ : ∀ c a w, Q (.panic c) (a.put (some d) v) w → Q (.panic c) a w) (hy : YieldsIf P ops S oi v a) (hS : S w)
    (h : wpAnyT P md ops Q S last fuel (listed.setIfInBounds i true) (a.put (some d) v) w) : wpAnyT P md ops Q S last (fuel + 1) listed a w := by
 rw [← hd] at hQ h
 exact wpAnyT_take hl hil hi hs hf hr hQ hy hS h
end
end Go.Proofs.YtbffebcjimhapaaGreatDoor
namespace Go.Proofs.YtbffebcjimhapaaGreatDoor
set_option linter.unusedVariables false
set_option linter.unusedSimpArgs false
open Go.ChangeShapes Go.WideShapes Go.ChangeAt Go.RowKit
set_option maxRecDepth 100000 in
set_option maxHeartbeats 12800000 in
theorem rhas_main {w : World} {b off c : Nat} {xs : List ByteArray} (hx : LnR.At w ⟨some ⟨b, off, none⟩, c, xs⟩) (ty : Int) {op : Nat} (hop : op ≤ 255) (h22 : op ≠ 22) (h64 : xs.length ≤ 20000) : Calls Tryz.prog 165 #[.agg #[.int .u8 op, .int .i64 ty, .int .i64 0, .int .i64 0, .int .i64 0, .slice none 0 0, .slice none 0 0], .slice (some ⟨b, off, none⟩) xs.length c] w (RfIns w (hasP op ty (xs.map toL))) := by
 obtain ⟨r, hr⟩ : ∃ r, regN op = r := ⟨_, rfl⟩
 have hr2 : r ≤ 2 := by rw [← hr]; unfold regN; split; exact Nat.le_refl _; split <;> omega
 have HU := Lib.hid (fun (W : World) => ruses7_any (r := r) hop h22 hr W)
 have HM := Lib.hid (fun (W : World) (hb : Below w.heap.size w W) (hn : r ≤ xs.length) => rmarks7_take hx h64 hb hn)
 have HN := Lib.hid (fun (W : World) => rhasn_any op W)
 have HX0 := Lib.hid (InsBox.start w (.int .u8 op) (.int .i64 ty))
 have HF : Hid (xs.length < r → hasP op ty (xs.map toL) = none) := Lib.hid (fun h => hasP_few h22 ty (by rw [List.length_map, hr]; exact h))
 have HBAD : Hid (r ≤ xs.length → marksP 114 ((xs.take r).map toL) = none → hasP op ty (xs.map toL) = none) := Lib.hid (fun h1 h => hasP_bad h22 ty (by rw [List.length_map, hr]; omega) (by rw [hr, ← List.map_take]; exact h))
 have HGOOD : Hid (r ≤ xs.length → ∀ l, marksP 114 ((xs.take r).map toL) = some l → hasP op ty (xs.map toL) = (match numW op ((xs.drop r).map toL) with
     | some (n, w2) => (argsW op w2).map fun m => (⟨op, ty, l.getD 0 0, l.getD 1 0, n, m, []⟩ : PIns)
     | none => none)) := Lib.hid (fun h1 l h => by
  have e := hasP_regs h22 ty (W := xs.map toL) (by rw [List.length_map, hr]; omega) (l := l) (by rw [hr, ← List.map_take]; exact h)
  rw [hr, ← List.map_drop] at e
  exact e)
 have HR3 := Lib.hid (fun (W : World) => rargs_any op W)
 obtain ⟨K, hK⟩ : ∃ K, hasP op ty (xs.map toL) = K := ⟨_, rfl⟩
 rw [hK] at HF HBAD HGOOD ⊢
 have hfit : xs.length ≤ c := hx.hdr.fit
 have hcap : c ≤ 9223372036854775807 := hx.hdr.cap
 have HXA := Lib.hid hx
 have hq22 : ¬ (op : Int) = 22 := by omega
 have q0 : (0 : Int) ≤ op := Int.natCast_nonneg _
 have q1 : (op : Int) ≤ 255 := by omega
 clear hx hK h22 hr
 obtain ⟨n, hn⟩ : ∃ n, xs.length = n := ⟨_, rfl⟩
 have HLN := Lib.hid hn
 rw [hn] at HF HBAD HGOOD HM hfit h64 ⊢
 clear hn
 go_enter Tryz.func165, Tryz.ntmps165
 go_wp2_with (go_at_call 124; refine (HU.out _).mono ?_; rintro e w1 ⟨A1, c1, rfl, hb1⟩; have HX1 := Lib.hid (HX0.out.call hb1); clear hb1; refine pause ?_)
 obtain ⟨x0, x1, x2, x3, x4, x5, x6⟩ := HX1.out.x.seven
 have xz := HX1.out.x.free
 obtain ⟨r0, r1, r2, r3, r4, r5, r6⟩ := HX1.out.r.seven
 have rz := HX1.out.r.free
 refine resume ?_
 by_cases hf : n < r
 · have HI : Hid (K = none) := Lib.hid (HF.out hf)
   have y1 : (n : Int) < r := by omega
   clear hf
   go_wp2_with fail
   have HE := Lib.hid (put_seven HX1.out.r (.int .u8 op) (.int .i64 ty) (.int .i64 0) (.int .i64 0) (.int .i64 0) (.slice none 0 0) (.slice none 0 0))
   have HBE := Lib.hid (up_seven HX1.out.below (Nat.le_succ _) (.int .u8 op) (.int .i64 ty) (.int .i64 0) (.int .i64 0) (.int .i64 0) (.slice none 0 0) (.slice none 0 0))
   obtain ⟨k0, k1, k2, k3, k4, k5, k6⟩ := HE.out.seven
   exact bodyPost_ret (v := .tuple #[InR.val ⟨op, ty, 0, 0, 0, none, 0, [], none, 0, []⟩, .bool false]) (by simp [results, Tryz.results165, go_sem, InR.val, k0, k1, k2, k3, k4, k5, k6]) rfl ⟨HBE.out, ⟨op, ty, 0, 0, 0, none, 0, [], none, 0, []⟩, by rw [HI.out]; rfl, by
    rw [HI.out]
    intro p hp
    cases hp⟩
 have hf : r ≤ n := Nat.le_of_not_lt hf
 have y1 : ¬ (n : Int) < r := by omega
 have y2 : r ≤ c := by omega
 have y3 : (r : Int) ≤ c := by omega
 have y3b : (r : Int) ≤ n := by omega
 have y0 : (0 : Int) ≤ r := Int.natCast_nonneg _
 have HM1 := Lib.hid (HM.out w1 HX1.out.below hf)
 have HG := Lib.hid (HGOOD.out hf)
 have HBD := Lib.hid (HBAD.out hf)
 have HHF := Lib.hid hf
 obtain ⟨o1, ho1⟩ : ∃ o1, marksP 114 ((xs.take r).map toL) = o1 := ⟨_, rfl⟩
 rw [ho1] at HM1 HG HBD
 have HLL : Hid (∀ l, o1 = some l → l.length = r) := Lib.hid (fun l h => by rw [marksP_len _ _ (ho1.trans h), List.length_map, List.length_take, HLN.out]; have := HHF.out; omega)
 clear ho1 HM HGOOD HBAD HF HU
 cases o1 with
 | none =>
   have HI : Hid (K = none) := Lib.hid (HBD.out rfl)
   go_wp2_with (go_at_call 105; refine HM1.out.mono ?_; rintro e w2 ⟨hb2, rfl⟩; have HX2 := Lib.hid (HX1.out.call hb2); clear hb2; clear x0 x1 x2 x3 x4 x5 x6 xz; clear r0 r1 r2 r3 r4 r5 r6 rz; obtain ⟨x0, x1, x2, x3, x4, x5, x6⟩ := HX2.out.x.seven; have xz := HX2.out.x.free; obtain ⟨r0, r1, r2, r3, r4, r5, r6⟩ := HX2.out.r.seven; have rz := HX2.out.r.free; refine pause ?_)
   refine resume ?_
   go_wp2_with fail
   have HE := Lib.hid (put_seven HX2.out.r (.int .u8 op) (.int .i64 ty) (.int .i64 0) (.int .i64 0) (.int .i64 0) (.slice none 0 0) (.slice none 0 0))
   have HBE := Lib.hid (up_seven HX2.out.below (Nat.le_succ _) (.int .u8 op) (.int .i64 ty) (.int .i64 0) (.int .i64 0) (.int .i64 0) (.slice none 0 0) (.slice none 0 0))
   obtain ⟨k0, k1, k2, k3, k4, k5, k6⟩ := HE.out.seven
   exact bodyPost_ret (v := .tuple #[InR.val ⟨op, ty, 0, 0, 0, none, 0, [], none, 0, []⟩, .bool false]) (by simp [results, Tryz.results165, go_sem, InR.val, k0, k1, k2, k3, k4, k5, k6]) rfl ⟨HBE.out, ⟨op, ty, 0, 0, 0, none, 0, [], none, 0, []⟩, by rw [HI.out]; rfl, by
    rw [HI.out]
    intro p hp
    cases hp⟩
 | some l =>
   have HG1 := Lib.hid (HG.out _ rfl)
   have HL1 := Lib.hid (HLL.out l rfl)
   obtain ⟨a1, ha1⟩ : ∃ a1, l.getD 0 0 = a1 := ⟨_, rfl⟩
   obtain ⟨b1, hb1⟩ : ∃ b1, l.getD 1 0 = b1 := ⟨_, rfl⟩
   rw [ha1, hb1] at HG1
   have HA1 := Lib.hid ha1
   have HB1 := Lib.hid hb1
   clear ha1 hb1 HG HBD HLL
   go_upto_if 40 with (go_at_call 105; refine HM1.out.mono ?_; rintro e w2 ⟨hb2, Ai, ci, rfl, hown⟩; have HX2 := Lib.hid (HX1.out.call hb2); have HO2 := Lib.hid (hown.more HX1.out.below.size); have hci1 : ci ≤ 9223372036854775807 := (own_hdr hown).1.cap; have hli : l.length ≤ ci := (own_hdr hown).1.fit; clear x0 x1 x2 x3 x4 x5 x6 xz; clear r0 r1 r2 r3 r4 r5 r6 rz; clear hb2 hown)
   clear HM1 HX1
   go_cut [7] from 40 to 44 (fun s7 wx => s7 = .slice Ai l.length ci ∧ Hid (InsBox w wx (.int .u8 op) (.int .i64 ty) (.int .i64 a1) (.int .i64 0) (.int .i64 0) (.slice none 0 0) (.slice none 0 0)) ∧ Hid (OwnInts wx w.heap.size (.slice Ai l.length ci) l))
   case first =>
    by_cases h0 : r = 0
    · have y5 : ¬ (0 : Int) < r := by omega
      have ha0 : a1 = 0 := by
       have h := HA1.out
       rw [List.eq_nil_of_length_eq_zero (HL1.out.trans h0)] at h
       exact h.symm
      clear h0
      go_wp2_with fail
      go_meet
      exact ⟨rfl, by rw [ha0]; exact HX2, HO2⟩
    · have y5 : (0 : Int) < r := by omega
      have hl0 : 0 < l.length := by rw [HL1.out]; omega
      obtain ⟨bi, oi, rfl, hlo, hbi, hci⟩ := (own_hdr HO2.out).2 hl0
      have l0 : w2.cell? ⟨bi, oi, none⟩ = some (.int .i64 a1) := by
       have h := hci 0 hl0 0 (by decide)
       dsimp only at h
       rw [HA1.out] at h
       exact h
      clear hci
      have y6 : (0 : Int) < l.length := by omega
      obtain ⟨x0, x1, x2, x3, x4, x5, x6⟩ := HX2.out.x.seven
      have xz := HX2.out.x.free
      go_wp2_with fail
      go_meet
      exact ⟨rfl, Lib.hid (HX2.out.put2 (.int .i64 a1)), Lib.hid (HO2.out.spare (Spare.set HX2.out.x (j := 2) (.int .i64 a1)) (by decide))⟩
   case rest =>
    obtain ⟨rfl, HX3, HO3⟩ := hcut
    obtain ⟨w3, hw3⟩ : ∃ w3, wc = w3 := ⟨_, rfl⟩
    subst hw3
    clear HX2 HO2
    go_upto_if 46 with fail
    go_cut [7] from 46 to 50 (fun s7 wx => s7 = .slice Ai l.length ci ∧ Hid (InsBox w wx (.int .u8 op) (.int .i64 ty) (.int .i64 a1) (.int .i64 b1) (.int .i64 0) (.slice none 0 0) (.slice none 0 0)))
    case first =>
     by_cases h0 : r ≤ 1
     · have y5 : ¬ (1 : Int) < r := by omega
       have hb0 : b1 = 0 := by
        have h := HB1.out
        rw [List.getD_eq_getElem?_getD, List.getElem?_eq_none (by rw [HL1.out]; exact h0)] at h
        exact h.symm
       clear h0
       go_wp2_with fail
       go_meet
       exact ⟨rfl, by rw [hb0]; exact HX3⟩
     · have y5 : (1 : Int) < r := by omega
       have hl1 : 1 < l.length := by rw [HL1.out]; omega
       obtain ⟨bi, oi, rfl, hlo, hbi, hci⟩ := (own_hdr HO3.out).2 (Nat.lt_trans Nat.zero_lt_one hl1)
       have l1 : wc.cell? ⟨bi, oi + 1, none⟩ = some (.int .i64 b1) := by
        have h := hci 1 hl1 0 (by decide)
        dsimp only at h
        rw [HB1.out] at h
        exact h
       clear hci
       have y6 : (1 : Int) < l.length := by omega
       obtain ⟨x0, x1, x2, x3, x4, x5, x6⟩ := HX3.out.x.seven
       have xz := HX3.out.x.free
       go_wp2_with fail
       go_meet
       exact ⟨rfl, Lib.hid (HX3.out.put3 (.int .i64 b1))⟩
    case rest =>
     obtain ⟨rfl, HX4⟩ := hcut
     clear HX3 HO3
     go_upto_region 13 with fail
     obtain ⟨wd, hwd⟩ : ∃ wd, wc = wd := ⟨_, rfl⟩
     rw [hwd] at HX4 ⊢
     clear hwd
     go_cut [1] from 51 to 53 (fun s1 wx => ∃ (A2 : Option Addr) (n1 c2 : Nat), s1 = .slice A2 n1 c2 ∧ Hid (LnR.At w ⟨A2, c2, xs.drop r⟩) ∧ Hid ((xs.drop r).length = n1) ∧ wx = wd)
     case first =>
      have HAT := HXA.out.drop r (by rw [HLN.out]; exact HHF.out)
      have hld : (xs.drop r).length = n - r := by rw [List.length_drop, HLN.out]
      by_cases hc : c = r
      · rw [if_pos hc] at HAT
        have hnr : n = r := by omega
        subst hc
        go_wp2_with fail
        go_meet
        exact ⟨_, _, _, rfl, Lib.hid (by rw [Nat.sub_self] at HAT; exact HAT), Lib.hid (by rw [hld]; omega), rfl⟩
      · rw [if_neg hc] at HAT
        go_wp2_with fail
        go_meet
        exact ⟨_, _, _, rfl, Lib.hid HAT, Lib.hid hld, rfl⟩
     case rest =>
      obtain ⟨A2, n1, c2, rfl, HAT, HN1, rfl⟩ := hcut
      obtain ⟨we, hwe⟩ : ∃ we, wc = we := ⟨_, rfl⟩
      rw [hwe] at HX4 ⊢
      clear hwe
      have HRK := Lib.hid (HR3.out)
      have h2l : Hid (n1 ≤ 20000 ∧ c2 ≤ 9223372036854775807 ∧ n1 ≤ c2) := Lib.hid ⟨by rw [← HN1.out, List.length_drop, HLN.out]; omega, by have := HAT.out.hdr.cap; unfold maxLen at this; exact this, by have h := HAT.out.hdr.fit; dsimp only at h; rw [HN1.out] at h; exact h⟩
      obtain ⟨hn20, hc20, hnc⟩ := h2l.out
      clear h2l y0 y1 y2 y3 y3b
      obtain ⟨b2, hb2⟩ : ∃ b2, hasT op 2 = b2 := ⟨_, rfl⟩
      have HB2 := Lib.hid hb2
      rw [hb2] at HN
      clear hb2
      obtain ⟨x0, x1, x2, x3, x4, x5, x6⟩ := HX4.out.x.seven
      have xz := HX4.out.x.free
      obtain ⟨r0, r1, r2, r3, r4, r5, r6⟩ := HX4.out.r.seven
      have rz := HX4.out.r.free
      go_upto_if 56 with (go_at_call 175; refine (HN.out _).mono ?_; rintro e w3 ⟨rfl, hb3⟩; have HX5 := Lib.hid (HX4.out.call hb3); clear hb3; clear x0 x1 x2 x3 x4 x5 x6 xz; clear r0 r1 r2 r3 r4 r5 r6 rz)
      clear HN HX4
      go_cut [1, 8] from 56 to 72 (fun s1 s8 wx => ∃ (A3 : Option Addr) (n2 c3 : Nat) (nv : Int) (is : Bool) (W2 : List ByteArray), s1 = .slice A3 n2 c3 ∧ s8 = .bool is ∧ Hid (LnR.At w ⟨A3, c3, W2⟩) ∧ Hid (W2.length = n2) ∧ n2 ≤ 20000 ∧ Hid (InsBox w wx (.int .u8 op) (.int .i64 ty) (.int .i64 a1) (.int .i64 b1) (.int .i64 nv) (.slice none 0 0) (.slice none 0 0)) ∧ Hid (K = if is = true then (argsW op (W2.map toL)).map (fun m => (⟨op, ty, a1, b1, nv, m, []⟩ : PIns)) else none))
      case first =>
       cases b2 with
       | false =>
         have HK2 : Hid (K = (argsW op ((xs.drop r).map toL)).map (fun m => (⟨op, ty, a1, b1, 0, m, []⟩ : PIns))) := Lib.hid (by rw [HG1.out]; exact hasP_p HB2.out ty a1 b1 _)
         go_wp2_with fail
         go_meet
         exact ⟨A2, n1, c2, 0, true, xs.drop r, rfl, rfl, HAT, HN1, hn20, HX5, Lib.hid (by rw [HK2.out]; rfl)⟩
       | true =>
         by_cases hz : n1 = 0
         · have HI : Hid (K = none) := Lib.hid (by
            rw [HG1.out, List.eq_nil_of_length_eq_zero (HN1.out.trans hz)]
            unfold numW
            rw [HB2.out]
            rfl)
           subst hz
           obtain ⟨x0, x1, x2, x3, x4, x5, x6⟩ := HX5.out.x.seven
           have xz := HX5.out.x.free
           obtain ⟨r0, r1, r2, r3, r4, r5, r6⟩ := HX5.out.r.seven
           have rz := HX5.out.r.free
           go_wp2_with fail
           have HE := Lib.hid (put_seven HX5.out.r (.int .u8 op) (.int .i64 ty) (.int .i64 a1) (.int .i64 b1) (.int .i64 0) (.slice none 0 0) (.slice none 0 0))
           have HBE := Lib.hid (up_seven HX5.out.below (Nat.le_succ _) (.int .u8 op) (.int .i64 ty) (.int .i64 a1) (.int .i64 b1) (.int .i64 0) (.slice none 0 0) (.slice none 0 0))
           obtain ⟨k0, k1, k2, k3, k4, k5, k6⟩ := HE.out.seven
           exact bodyPost_ret (v := .tuple #[InR.val ⟨op, ty, a1, b1, 0, none, 0, [], none, 0, []⟩, .bool false]) (by simp [results, Tryz.results165, go_sem, InR.val, k0, k1, k2, k3, k4, k5, k6]) rfl ⟨HBE.out, ⟨op, ty, a1, b1, 0, none, 0, [], none, 0, []⟩, by rw [HI.out]; rfl, by
            rw [HI.out]
            intro p hp
            cases hp⟩
         · have hn0 : 0 < (xs.drop r).length := by rw [HN1.out]; omega
           obtain ⟨b', off', sN, e1, hb', hcell, heN⟩ := HAT.out.strs.elem (i := 0) hn0
           have e1 : A2 = some ⟨b', off', none⟩ := e1
           subst e1
           have hN0 : w3.cell? ⟨b', off', none⟩ = some (.string sN) := (HX5.out.below.cell (p := ⟨b', off', none⟩) hb').trans hcell
           have HBW := Lib.hid hb'
           have HDR : Hid ((xs.drop r).map toL = toL sN :: ((xs.drop r).drop 1).map toL) := Lib.hid (by
            have h1 := heN.out
            match hd : xs.drop r, hn0 with
            | x :: t, _ =>
              rw [hd] at h1
              have h1 : x = sN := h1
              rw [h1]
              rfl)
           have HMD4 : Hid (LnR.At w ⟨if c2 = 1 then some ⟨b', off', none⟩ else some ⟨b', off' + 1, none⟩, c2 - 1, (xs.drop r).drop 1⟩) := Lib.hid (HAT.out.drop 1 hn0)
           have HL4 : Hid (((xs.drop r).drop 1).length = n1 - 1) := Lib.hid (by rw [List.length_drop, HN1.out])
           have HK1 : Hid (K = match numberP op (toL sN) with
            | some nv => (argsW op (((xs.drop r).drop 1).map toL)).map (fun m => (⟨op, ty, a1, b1, nv, m, []⟩ : PIns))
            | none => none) := Lib.hid (by
            rw [HG1.out, HDR.out]
            unfold numW
            rw [HB2.out, if_pos rfl]
            dsimp only
            cases numberP op (toL sN) <;> rfl)
           have HNUM := Lib.hid (fun (W : World) => rnum7_any op sN W)
           obtain ⟨oN, hoN⟩ : ∃ oN, numberP op (toL sN) = oN := ⟨_, rfl⟩
           rw [hoN] at HNUM HK1
           obtain ⟨nv, hnv⟩ : ∃ nv, oN.getD 0 = nv := ⟨_, rfl⟩
           obtain ⟨is, his⟩ : ∃ is, oN.isSome = is := ⟨_, rfl⟩
           rw [hnv, his] at HNUM
           have HK2 : Hid (K = if is = true then (argsW op (((xs.drop r).drop 1).map toL)).map (fun m => (⟨op, ty, a1, b1, nv, m, []⟩ : PIns)) else none) := Lib.hid (by
            rw [HK1.out, ← his, ← hnv]
            cases oN <;> rfl)
           have y8 : ((n1 : Int) == 0) = false := by rw [beq_eq_false_iff_ne]; omega
           have y9 : ¬ (n1 : Int) = 0 := by omega
           have y10 : (0 : Int) < (n1 : Int) := by omega
           have y11 : (1 : Int) ≤ (n1 : Int) := by omega
           have y13 : 0 < n1 := by omega
           have y14 : 1 ≤ c2 := by omega
           have y15 : (1 : Int) ≤ (c2 : Int) := by omega
           clear hoN hnv his heN hcell hb' hn0 hz HK1 HG1 HDR
           obtain ⟨x0, x1, x2, x3, x4, x5, x6⟩ := HX5.out.x.seven
           have xz := HX5.out.x.free
           obtain ⟨r0, r1, r2, r3, r4, r5, r6⟩ := HX5.out.r.seven
           have rz := HX5.out.r.free
           go_upto_region 17 with fail
           refine wp_region_T (fun w' => w'.cell? ⟨w.heap.size, 0, none⟩ = some (.int .u8 op) ∧ w'.cell? ⟨b', off', none⟩ = some (.string sN)) 11 (by kernel_rfl) ⟨HX5.out.drew.x.cells 0, hN0⟩ (fun hHeld => ?_)
           have HN0 := Lib.hid hN0
           clear hN0
           clear x0 x1 x2 x3 x4 x5 x6 xz
           clear r0 r1 r2 r3 r4 r5 r6 rz
           refine wpAnyT_takeD (i := 0) (d := 62) (by kernel_rfl) (by decide) rfl (by kernel_rfl) (by kernel_rfl) (by kernel_rfl) (by kernel_rfl) (fun _ _ _ h => h) (Or.inl ⟨by kernel_rfl, by (intro w hSw; (try dsimp only at hSw); go_simp; (try with_reducible rfl))⟩) (by assumption) ?_; (try simp only [Act.put, List.setIfInBounds_toArray, List.set_cons_zero, List.set_cons_succ])
           refine wpAnyT_takeD (i := 1) (d := 63) (by kernel_rfl) (by decide) rfl (by kernel_rfl) (by kernel_rfl) (by kernel_rfl) (by kernel_rfl) (fun _ _ _ h => h) (Or.inl ⟨by kernel_rfl, by (intro w hSw; (try dsimp only at hSw); go_simp; (try with_reducible rfl))⟩) (by assumption) ?_; (try simp only [Act.put, List.setIfInBounds_toArray, List.set_cons_zero, List.set_cons_succ])
           refine wpAnyT_takeD (i := 2) (d := 64) (by kernel_rfl) (by decide) rfl (by kernel_rfl) (by kernel_rfl) (by kernel_rfl) (by kernel_rfl) (fun _ _ _ h => h) (Or.inl ⟨by kernel_rfl, by (intro w hSw; (try dsimp only at hSw); go_simp; (try with_reducible rfl))⟩) (by assumption) ?_; (try simp only [Act.put, List.setIfInBounds_toArray, List.set_cons_zero, List.set_cons_succ])
           refine wpAnyT_takeD (i := 3) (d := 65) (by kernel_rfl) (by decide) rfl (by kernel_rfl) (by kernel_rfl) (by kernel_rfl) (by kernel_rfl) (fun _ _ _ h => h) (Or.inl ⟨by kernel_rfl, by (intro w hSw; (try dsimp only at hSw); go_simp; (try with_reducible rfl))⟩) (by assumption) ?_; (try simp only [Act.put, List.setIfInBounds_toArray, List.set_cons_zero, List.set_cons_succ])
           refine wpAnyT_takeD (i := 4) (d := 66) (by kernel_rfl) (by decide) rfl (by kernel_rfl) (by kernel_rfl) (by kernel_rfl) (by kernel_rfl) (fun _ _ _ h => h) (Or.inl ⟨by kernel_rfl, by (intro w hSw; (try dsimp only at hSw); go_simp; (try with_reducible rfl))⟩) (by assumption) ?_; (try simp only [Act.put, List.setIfInBounds_toArray, List.set_cons_zero, List.set_cons_succ])
           refine wpAnyT_one (i := 5) (by kernel_rfl) rfl (fun K hK => ?_)
           go_simp
           refine (HNUM.out _).mono ?_
           rintro e w4 ⟨rfl, hb4⟩
           have HX6 := Lib.hid (HX5.out.drew.call hb4)
           have hN4 : w4.cell? ⟨b', off', none⟩ = some (.string sN) := (hb4.cell (p := ⟨b', off', none⟩) (Nat.lt_of_lt_of_le HBW.out HX5.out.drew.below.size)).trans HN0.out
           clear hb4
           try dsimp only
           refine hK.out _ _ (fun _ => ⟨HX6.out.x.cells 0, hN4⟩) (fun hH => ?_); clear hHeld hK K; have hHeld := hH (by decide); clear hH
           refine wpAnyT_takeD (i := 6) (d := 61) (by kernel_rfl) (by decide) rfl (by kernel_rfl) (by kernel_rfl) (by kernel_rfl) (by kernel_rfl) (fun _ _ _ h => h) (Or.inl ⟨by kernel_rfl, by (intro w hSw; (try dsimp only at hSw); go_simp; (try with_reducible rfl))⟩) (by assumption) ?_; (try simp only [Act.put, List.setIfInBounds_toArray, List.set_cons_zero, List.set_cons_succ])
           refine wpAnyT_takeD (i := 7) (d := 68) (by kernel_rfl) (by decide) rfl (by kernel_rfl) (by kernel_rfl) (by kernel_rfl) (by kernel_rfl) (fun _ _ _ h => h) (Or.inl ⟨by kernel_rfl, by (intro w hSw; (try dsimp only at hSw); go_simp; (try with_reducible rfl))⟩) (by assumption) ?_; (try simp only [Act.put, List.setIfInBounds_toArray, List.set_cons_zero, List.set_cons_succ])
           refine wpAnyT_takeD (i := 8) (d := 69) (by kernel_rfl) (by decide) rfl (by kernel_rfl) (by kernel_rfl) (by kernel_rfl) (by kernel_rfl) (fun _ _ _ h => h) (Or.inl ⟨by kernel_rfl, by (intro w hSw; (try dsimp only at hSw); go_simp; (try with_reducible rfl))⟩) (by assumption) ?_; (try simp only [Act.put, List.setIfInBounds_toArray, List.set_cons_zero, List.set_cons_succ])
           refine wpAnyT_takeD (i := 9) (d := 70) (by kernel_rfl) (by decide) rfl (by kernel_rfl) (by kernel_rfl) (by kernel_rfl) (by kernel_rfl) (fun _ _ _ h => h) (Or.inl ⟨by kernel_rfl, by (intro w hSw; (try dsimp only at hSw); go_simp; (try with_reducible rfl))⟩) (by assumption) ?_; (try simp only [Act.put, List.setIfInBounds_toArray, List.set_cons_zero, List.set_cons_succ])
           refine wpAnyT_one (i := 10) (by kernel_rfl) rfl (fun K hK => ?_)
           have x4 : w4.cell? ⟨w.heap.size, 4, none⟩ = some (.int .i64 0) := HX6.out.x.cells 4
           have xz := HX6.out.x.free
           go_simp
           have HX7 := Lib.hid (HX6.out.put4 (.int .i64 nv))
           have hN5 : (w4.setCell ⟨w.heap.size, 4, none⟩ (.int .i64 nv)).cell? ⟨b', off', none⟩ = some (.string sN) := (World.cell?_setCell_other _ _ _ _ (fun e => by injection e with e _ _; have := HBW.out; omega)).trans hN4
           refine hK.out _ _ (fun _ => ⟨HX7.out.x.cells 0, hN5⟩) (fun hH => ?_); clear hHeld hK K; have hHeld := hH (by decide); clear hH
           refine wpAnyT_one (i := 11) (by kernel_rfl) rfl (fun K hK => ?_)
           go_simp
           refine hK.out _ _ (fun e => absurd rfl e) (fun hH => ?_); refine wpAnyT_done (by kernel_rfl) ?_ _; clear hHeld hK K hH
           clear x4 xz hN4 hN5 HX6
           by_cases hd : c2 = 1
           · have h4 := HMD4.out
             rw [if_pos hd] at h4
             have hn1 : n1 = 1 := by omega
             subst hd
             subst hn1
             go_wp2_with fail
             go_meet
             exact ⟨_, _, _, nv, is, (xs.drop r).drop 1, rfl, rfl, Lib.hid h4, HL4, by omega, HX7, HK2⟩
           · have h4 := HMD4.out
             rw [if_neg hd] at h4
             go_wp2_with fail
             go_meet
             exact ⟨_, _, _, nv, is, (xs.drop r).drop 1, rfl, rfl, Lib.hid h4, HL4, by omega, HX7, HK2⟩
      case rest =>
       obtain ⟨A3, n2, c3, nv, is, W2, rfl, rfl, HAT2, HN2, hn22, HX7, HK7⟩ := hcut
       have HM5 := Lib.hid (rmarks_any (HAT2.out.on HX7.out.below) 114 (by dsimp only; rw [HN2.out]; exact hn22))
       rw [show ((114 : UInt8).toNat : Int) = 114 from rfl] at HM5
       dsimp only at HM5
       rw [HN2.out, show (⟨A3, c3, W2⟩ : LnR).data = W2.map toL from rfl] at HM5
       obtain ⟨o2, ho2⟩ : ∃ o2, marksP 114 (W2.map toL) = o2 := ⟨_, rfl⟩
       rw [ho2] at HM5
       have HO2 := Lib.hid ho2
       clear ho2
       cases o2 with
       | none =>
         have HI : Hid (K = none) := Lib.hid (by
          rw [HK7.out, args_none HO2.out]
          cases is <;> rfl)
         go_wp2_with (go_at_call 105; refine HM5.out.mono ?_; rintro e w5 ⟨hb5, rfl⟩; have HX8 := Lib.hid (HX7.out.call hb5); clear hb5; obtain ⟨x0, x1, x2, x3, x4, x5, x6⟩ := HX8.out.x.seven; have xz := HX8.out.x.free; obtain ⟨r0, r1, r2, r3, r4, r5, r6⟩ := HX8.out.r.seven; have rz := HX8.out.r.free; refine pause ?_)
         have HX9 := Lib.hid (HX8.out.put5 (.slice none 0 0))
         clear HM5
         refine resume ?_
         cases is with
         | true =>
           go_wp2_with fail
           go_region
           go_wp2_with fail
           have HE := Lib.hid (put_seven HX9.out.r (.int .u8 op) (.int .i64 ty) (.int .i64 a1) (.int .i64 b1) (.int .i64 nv) (.slice none 0 0) (.slice none 0 0))
           have HBE := Lib.hid (up_seven HX9.out.below (Nat.le_succ _) (.int .u8 op) (.int .i64 ty) (.int .i64 a1) (.int .i64 b1) (.int .i64 nv) (.slice none 0 0) (.slice none 0 0))
           obtain ⟨k0, k1, k2, k3, k4, k5, k6⟩ := HE.out.drew.seven
           exact bodyPost_ret (v := .tuple #[InR.val ⟨op, ty, a1, b1, nv, none, 0, [], none, 0, []⟩, .bool false]) (by simp [results, Tryz.results165, go_sem, InR.val, k0, k1, k2, k3, k4, k5, k6]) rfl ⟨HBE.out.drew, ⟨op, ty, a1, b1, nv, none, 0, [], none, 0, []⟩, by rw [HI.out]; rfl, by
            rw [HI.out]
            intro p hp
            cases hp⟩
         | false =>
           go_wp2_with fail
           go_region
           go_wp2_with fail
           have HE := Lib.hid (put_seven HX9.out.r (.int .u8 op) (.int .i64 ty) (.int .i64 a1) (.int .i64 b1) (.int .i64 nv) (.slice none 0 0) (.slice none 0 0))
           have HBE := Lib.hid (up_seven HX9.out.below (Nat.le_succ _) (.int .u8 op) (.int .i64 ty) (.int .i64 a1) (.int .i64 b1) (.int .i64 nv) (.slice none 0 0) (.slice none 0 0))
           obtain ⟨k0, k1, k2, k3, k4, k5, k6⟩ := HE.out.drew.seven
           exact bodyPost_ret (v := .tuple #[InR.val ⟨op, ty, a1, b1, nv, none, 0, [], none, 0, []⟩, .bool false]) (by simp [results, Tryz.results165, go_sem, InR.val, k0, k1, k2, k3, k4, k5, k6]) rfl ⟨HBE.out.drew, ⟨op, ty, a1, b1, nv, none, 0, [], none, 0, []⟩, by rw [HI.out]; rfl, by
            rw [HI.out]
            intro p hp
            cases hp⟩
       | some l2 =>
         go_wp2_with (go_at_call 105; refine HM5.out.mono ?_; rintro e w5 ⟨hb5, Aj, cj, rfl, hown⟩; have HO5 := Lib.hid (hown.more HX7.out.below.size); clear hown; have HX8 := Lib.hid (HX7.out.call hb5); clear hb5; obtain ⟨x0, x1, x2, x3, x4, x5, x6⟩ := HX8.out.x.seven; have xz := HX8.out.x.free; obtain ⟨r0, r1, r2, r3, r4, r5, r6⟩ := HX8.out.r.seven; have rz := HX8.out.r.free; refine pause ?_)
         have HX9 := Lib.hid (HX8.out.put5 (.slice Aj l2.length cj))
         have HO9 := Lib.hid (OwnInts.spare HO5.out (Spare.set HX8.out.x (j := 5) (.slice Aj l2.length cj)) (by decide))
         clear HM5
         refine resume ?_
         cases is with
         | false =>
           have HI : Hid (K = none) := Lib.hid (by rw [HK7.out]; rfl)
           go_wp2_with fail
           go_region
           go_wp2_with fail
           have HE := Lib.hid (put_seven HX9.out.r (.int .u8 op) (.int .i64 ty) (.int .i64 a1) (.int .i64 b1) (.int .i64 nv) (.slice Aj l2.length cj) (.slice none 0 0))
           have HBE := Lib.hid (up_seven HX9.out.below (Nat.le_succ _) (.int .u8 op) (.int .i64 ty) (.int .i64 a1) (.int .i64 b1) (.int .i64 nv) (.slice Aj l2.length cj) (.slice none 0 0))
           obtain ⟨k0, k1, k2, k3, k4, k5, k6⟩ := HE.out.drew.seven
           exact bodyPost_ret (v := .tuple #[InR.val ⟨op, ty, a1, b1, nv, Aj, cj, l2, none, 0, []⟩, .bool false]) (by simp [results, Tryz.results165, go_sem, InR.val, k0, k1, k2, k3, k4, k5, k6]) rfl ⟨HBE.out.drew, ⟨op, ty, a1, b1, nv, Aj, cj, l2, none, 0, []⟩, by rw [HI.out]; rfl, by
            rw [HI.out]
            intro p hp
            cases hp⟩
         | true =>
           by_cases hz : n2 = 0
           · have HI : Hid (K = some ⟨op, ty, a1, b1, nv, l2, []⟩) := Lib.hid (by
              rw [HK7.out, args_some HO2.out (.inl (by rw [List.eq_nil_of_length_eq_zero (HN2.out.trans hz)]; rfl))]
              rfl)
             subst hz
             have y5 : (((0 : Nat) : Int) == 0) = true := by simp
             go_wp2_with fail
             go_region
             go_wp2_with fail
             have HE := Lib.hid (put_seven HX9.out.r (.int .u8 op) (.int .i64 ty) (.int .i64 a1) (.int .i64 b1) (.int .i64 nv) (.slice Aj l2.length cj) (.slice none 0 0))
             have HBE := Lib.hid (up_seven HX9.out.below (Nat.le_succ _) (.int .u8 op) (.int .i64 ty) (.int .i64 a1) (.int .i64 b1) (.int .i64 nv) (.slice Aj l2.length cj) (.slice none 0 0))
             obtain ⟨k0, k1, k2, k3, k4, k5, k6⟩ := HE.out.drew.seven
             exact bodyPost_ret (v := .tuple #[InR.val ⟨op, ty, a1, b1, nv, Aj, cj, l2, none, 0, []⟩, .bool true]) (by simp [results, Tryz.results165, go_sem, InR.val, k0, k1, k2, k3, k4, k5, k6]) rfl ⟨HBE.out.drew, ⟨op, ty, a1, b1, nv, Aj, cj, l2, none, 0, []⟩, by rw [HI.out]; rfl, by
              rw [HI.out]
              intro p hp
              injection hp with hp; subst hp; exact ⟨rfl, by show op ≤ 255; omega, (OwnInts.spare HO9.out (spare_seven HX9.out.r (.int .u8 op) (.int .i64 ty) (.int .i64 a1) (.int .i64 b1) (.int .i64 nv) (.slice Aj l2.length cj) (.slice none 0 0)) (by decide)).keep ((Below.refl _ _).drew), OwnInts.nil _ _⟩⟩
           · have y5 : ((n2 : Int) == 0) = false := by rw [beq_eq_false_iff_ne]; omega
             have HNE : Hid (¬ W2.map toL = []) := Lib.hid (fun e => hz (by rw [← HN2.out, ← List.length_map (f := toL), e]; rfl))
             clear hz
             have H3 := Lib.hid (fun W => HR3.out W)
             obtain ⟨b3, hb3⟩ : ∃ b3, hasT op 3 = b3 := ⟨_, rfl⟩
             rw [hb3] at H3
             have HI : Hid (K = if b3 = true then some ⟨op, ty, a1, b1, nv, l2, []⟩ else none) := Lib.hid (by
              rw [HK7.out]
              cases b3 with
              | true => rw [args_some HO2.out (.inr hb3)]; rfl
              | false => rw [args_not HNE.out hb3]; rfl)
             clear hb3
             go_wp2_with fail
             refine wp_region_T (fun w' => w'.cell? ⟨w.heap.size, 0, none⟩ = some (.int .u8 op) ∧ w'.cell? ⟨w.heap.size, 1, none⟩ = some (.int .i64 ty) ∧ w'.cell? ⟨w.heap.size, 2, none⟩ = some (.int .i64 a1) ∧ w'.cell? ⟨w.heap.size, 3, none⟩ = some (.int .i64 b1) ∧ w'.cell? ⟨w.heap.size, 4, none⟩ = some (.int .i64 nv) ∧ w'.cell? ⟨w.heap.size, 5, none⟩ = some (.slice Aj l2.length cj) ∧ w'.cell? ⟨w.heap.size, 6, none⟩ = some (.slice none 0 0)) 16 (by kernel_rfl) HX9.out.drew.x.seven (fun hHeld => ?_)
             clear x0 x1 x2 x3 x4 x5 x6 xz
             clear r0 r1 r2 r3 r4 r5 r6 rz
             refine wpAnyT_takeD (i := 0) (d := 80) (by kernel_rfl) (by decide) rfl (by kernel_rfl) (by kernel_rfl) (by kernel_rfl) (by kernel_rfl) (fun _ _ _ h => h) (Or.inl ⟨by kernel_rfl, by (intro w hSw; (try dsimp only at hSw); go_simp; (try with_reducible rfl))⟩) (by assumption) ?_; (try simp only [Act.put, List.setIfInBounds_toArray, List.set_cons_zero, List.set_cons_succ])
             refine wpAnyT_takeD (i := 1) (d := 81) (by kernel_rfl) (by decide) rfl (by kernel_rfl) (by kernel_rfl) (by kernel_rfl) (by kernel_rfl) (fun _ _ _ h => h) (Or.inl ⟨by kernel_rfl, by (intro w hSw; (try dsimp only at hSw); go_simp; (try with_reducible rfl))⟩) (by assumption) ?_; (try simp only [Act.put, List.setIfInBounds_toArray, List.set_cons_zero, List.set_cons_succ])
             refine wpAnyT_takeD (i := 2) (d := 82) (by kernel_rfl) (by decide) rfl (by kernel_rfl) (by kernel_rfl) (by kernel_rfl) (by kernel_rfl) (fun _ _ _ h => h) (Or.inl ⟨by kernel_rfl, by (intro w hSw; (try dsimp only at hSw); go_simp; (try with_reducible rfl))⟩) (by assumption) ?_; (try simp only [Act.put, List.setIfInBounds_toArray, List.set_cons_zero, List.set_cons_succ])
             refine wpAnyT_takeD (i := 3) (d := 83) (by kernel_rfl) (by decide) rfl (by kernel_rfl) (by kernel_rfl) (by kernel_rfl) (by kernel_rfl) (fun _ _ _ h => h) (Or.inl ⟨by kernel_rfl, by (intro w hSw; (try dsimp only at hSw); go_simp; (try with_reducible rfl))⟩) (by assumption) ?_; (try simp only [Act.put, List.setIfInBounds_toArray, List.set_cons_zero, List.set_cons_succ])
             refine wpAnyT_takeD (i := 4) (d := 84) (by kernel_rfl) (by decide) rfl (by kernel_rfl) (by kernel_rfl) (by kernel_rfl) (by kernel_rfl) (fun _ _ _ h => h) (Or.inl ⟨by kernel_rfl, by (intro w hSw; (try dsimp only at hSw); go_simp; (try with_reducible rfl))⟩) (by assumption) ?_; (try simp only [Act.put, List.setIfInBounds_toArray, List.set_cons_zero, List.set_cons_succ])
             refine wpAnyT_takeD (i := 5) (d := 85) (by kernel_rfl) (by decide) rfl (by kernel_rfl) (by kernel_rfl) (by kernel_rfl) (by kernel_rfl) (fun _ _ _ h => h) (Or.inl ⟨by kernel_rfl, by (intro w hSw; (try dsimp only at hSw); go_simp; (try with_reducible rfl))⟩) (by assumption) ?_; (try simp only [Act.put, List.setIfInBounds_toArray, List.set_cons_zero, List.set_cons_succ])
             refine wpAnyT_takeD (i := 6) (d := 86) (by kernel_rfl) (by decide) rfl (by kernel_rfl) (by kernel_rfl) (by kernel_rfl) (by kernel_rfl) (fun _ _ _ h => h) (Or.inl ⟨by kernel_rfl, by (intro w hSw; (try dsimp only at hSw); go_simp; (try with_reducible rfl))⟩) (by assumption) ?_; (try simp only [Act.put, List.setIfInBounds_toArray, List.set_cons_zero, List.set_cons_succ])
             refine wpAnyT_takeD (i := 7) (d := 87) (by kernel_rfl) (by decide) rfl (by kernel_rfl) (by kernel_rfl) (by kernel_rfl) (by kernel_rfl) (fun _ _ _ h => h) (Or.inl ⟨by kernel_rfl, by (intro w hSw; (try dsimp only at hSw); go_simp; (try with_reducible rfl))⟩) (by assumption) ?_; (try simp only [Act.put, List.setIfInBounds_toArray, List.set_cons_zero, List.set_cons_succ])
             refine wpAnyT_takeD (i := 8) (d := 88) (by kernel_rfl) (by decide) rfl (by kernel_rfl) (by kernel_rfl) (by kernel_rfl) (by kernel_rfl) (fun _ _ _ h => h) (Or.inl ⟨by kernel_rfl, by (intro w hSw; (try dsimp only at hSw); go_simp; (try with_reducible rfl))⟩) (by assumption) ?_; (try simp only [Act.put, List.setIfInBounds_toArray, List.set_cons_zero, List.set_cons_succ])
             refine wpAnyT_takeD (i := 9) (d := 89) (by kernel_rfl) (by decide) rfl (by kernel_rfl) (by kernel_rfl) (by kernel_rfl) (by kernel_rfl) (fun _ _ _ h => h) (Or.inl ⟨by kernel_rfl, by (intro w hSw; (try dsimp only at hSw); go_simp; (try with_reducible rfl))⟩) (by assumption) ?_; (try simp only [Act.put, List.setIfInBounds_toArray, List.set_cons_zero, List.set_cons_succ])
             refine wpAnyT_takeD (i := 10) (d := 90) (by kernel_rfl) (by decide) rfl (by kernel_rfl) (by kernel_rfl) (by kernel_rfl) (by kernel_rfl) (fun _ _ _ h => h) (Or.inl ⟨by kernel_rfl, by (intro w hSw; (try dsimp only at hSw); go_simp; (try with_reducible rfl))⟩) (by assumption) ?_; (try simp only [Act.put, List.setIfInBounds_toArray, List.set_cons_zero, List.set_cons_succ])
             refine wpAnyT_takeD (i := 11) (d := 91) (by kernel_rfl) (by decide) rfl (by kernel_rfl) (by kernel_rfl) (by kernel_rfl) (by kernel_rfl) (fun _ _ _ h => h) (Or.inl ⟨by kernel_rfl, by (intro w hSw; (try dsimp only at hSw); go_simp; (try with_reducible rfl))⟩) (by assumption) ?_; (try simp only [Act.put, List.setIfInBounds_toArray, List.set_cons_zero, List.set_cons_succ])
             refine wpAnyT_one (i := 12) (by kernel_rfl) rfl (fun K hK => ?_)
             go_simp
             refine (H3.out _).mono ?_
             rintro e w8 ⟨rfl, hb8⟩
             have HX10 := Lib.hid (HX9.out.drew.call hb8)
             have HO10 := Lib.hid ((HO9.out.keep ((Below.refl _ _).drew)).keep hb8)
             clear hb8
             try dsimp only
             refine hK.out _ _ (fun _ => HX10.out.x.seven) (fun hH => ?_); clear hHeld hK K; have hHeld := hH (by decide); clear hH
             refine wpAnyT_takeD (i := 13) (d := 93) (by kernel_rfl) (by decide) rfl (by kernel_rfl) (by kernel_rfl) (by kernel_rfl) (by kernel_rfl) (fun _ _ _ h => h) (Or.inl ⟨by kernel_rfl, by (intro w hSw; (try dsimp only at hSw); go_simp; (try with_reducible rfl))⟩) (by assumption) ?_; (try simp only [Act.put, List.setIfInBounds_toArray, List.set_cons_zero, List.set_cons_succ])
             refine wpAnyT_takeD (i := 14) (d := 94) (by kernel_rfl) (by decide) rfl (by kernel_rfl) (by kernel_rfl) (by kernel_rfl) (by kernel_rfl) (fun _ _ _ h => h) (Or.inl ⟨by kernel_rfl, by (intro w hSw; (try dsimp only at hSw); go_simp; (try with_reducible rfl))⟩) (by assumption) ?_; (try simp only [Act.put, List.setIfInBounds_toArray, List.set_cons_zero, List.set_cons_succ])
             refine wpAnyT_one (i := 15) (by kernel_rfl) rfl (fun K hK => ?_)
             obtain ⟨r0, r1, r2, r3, r4, r5, r6⟩ := HX10.out.r.seven
             have rz := HX10.out.r.free
             go_simp
             have HF9 := Lib.hid (far_seven HX10.out.x (Nat.succ_ne_self _).symm (.int .u8 op) (.int .i64 ty) (.int .i64 a1) (.int .i64 b1) (.int .i64 nv) (.slice Aj l2.length cj) (.slice none 0 0))
             refine hK.out _ _ (fun _ => HF9.out.seven) (fun hH => ?_); clear hHeld hK K; have hHeld := hH (by decide); clear hH
             refine wpAnyT_one (i := 16) (by kernel_rfl) rfl (fun K hK => ?_)
             go_simp
             refine hK.out _ _ (fun e => absurd rfl e) (fun hH => ?_); refine wpAnyT_done (by kernel_rfl) ?_ _; clear hHeld hK K hH
             clear r0 r1 r2 r3 r4 r5 r6 rz
             go_wp2_with fail
             cases b3 with
             | true =>
               have HI : Hid (K = some ⟨op, ty, a1, b1, nv, l2, []⟩) := Lib.hid HI.out
               have HE := Lib.hid (put_seven HX10.out.r (.int .u8 op) (.int .i64 ty) (.int .i64 a1) (.int .i64 b1) (.int .i64 nv) (.slice Aj l2.length cj) (.slice none 0 0))
               have HBE := Lib.hid (up_seven HX10.out.below (Nat.le_succ _) (.int .u8 op) (.int .i64 ty) (.int .i64 a1) (.int .i64 b1) (.int .i64 nv) (.slice Aj l2.length cj) (.slice none 0 0))
               obtain ⟨k0, k1, k2, k3, k4, k5, k6⟩ := HE.out.seven
               exact bodyPost_ret (v := .tuple #[InR.val ⟨op, ty, a1, b1, nv, Aj, cj, l2, none, 0, []⟩, .bool true]) (by simp [results, Tryz.results165, go_sem, InR.val, k0, k1, k2, k3, k4, k5, k6]) rfl ⟨HBE.out, ⟨op, ty, a1, b1, nv, Aj, cj, l2, none, 0, []⟩, by rw [HI.out]; rfl, by
                rw [HI.out]
                intro p hp
                injection hp with hp; subst hp; exact ⟨rfl, by show op ≤ 255; omega, OwnInts.spare HO10.out (spare_seven HX10.out.r (.int .u8 op) (.int .i64 ty) (.int .i64 a1) (.int .i64 b1) (.int .i64 nv) (.slice Aj l2.length cj) (.slice none 0 0)) (by decide), OwnInts.nil _ _⟩⟩
             | false =>
               have HI : Hid (K = none) := Lib.hid HI.out
               have HE := Lib.hid (put_seven HX10.out.r (.int .u8 op) (.int .i64 ty) (.int .i64 a1) (.int .i64 b1) (.int .i64 nv) (.slice Aj l2.length cj) (.slice none 0 0))
               have HBE := Lib.hid (up_seven HX10.out.below (Nat.le_succ _) (.int .u8 op) (.int .i64 ty) (.int .i64 a1) (.int .i64 b1) (.int .i64 nv) (.slice Aj l2.length cj) (.slice none 0 0))
               obtain ⟨k0, k1, k2, k3, k4, k5, k6⟩ := HE.out.seven
               exact bodyPost_ret (v := .tuple #[InR.val ⟨op, ty, a1, b1, nv, Aj, cj, l2, none, 0, []⟩, .bool false]) (by simp [results, Tryz.results165, go_sem, InR.val, k0, k1, k2, k3, k4, k5, k6]) rfl ⟨HBE.out, ⟨op, ty, a1, b1, nv, Aj, cj, l2, none, 0, []⟩, by rw [HI.out]; rfl, by
                rw [HI.out]
                intro p hp
                cases hp⟩
set_option maxRecDepth 100000 in
set_option maxHeartbeats 3200000 in
theorem rhas_phi {w : World} {b off c : Nat} {xs : List ByteArray} (hx : LnR.At w ⟨some ⟨b, off, none⟩, c, xs⟩) (ty : Int) (h64 : xs.length ≤ 20000) : Calls Tryz.prog 165 #[.agg #[.int .u8 22, .int .i64 ty, .int .i64 0, .int .i64 0, .int .i64 0, .slice none 0 0, .slice none 0 0], .slice (some ⟨b, off, none⟩) xs.length c] w (RfIns w (hasP 22 ty (xs.map toL))) := by
 have HX0 := Lib.hid (InsBox.start w (.int .u8 22) (.int .i64 ty))
 have HP := Lib.hid (fun (W : World) (hb : Below w.heap.size w W) => rphi_any (hx.on hb) ty h64)
 have hk : hasP 22 ty (xs.map toL) = ((phiP (xs.map toL)).map fun q => (⟨22, ty, 0, 0, 0, q.2, q.1⟩ : PIns)) := if_pos rfl
 rw [hk]
 rw [show (⟨some ⟨b, off, none⟩, c, xs⟩ : LnR).data = xs.map toL from rfl] at HP
 obtain ⟨K, hK⟩ : ∃ K, ((phiP (xs.map toL)).map fun q => (⟨22, ty, 0, 0, 0, q.2, q.1⟩ : PIns)) = K := ⟨_, rfl⟩
 rw [hK] at HP ⊢
 clear hK hk hx h64
 obtain ⟨zb, hzb⟩ : ∃ zb, K.isSome = zb := ⟨_, rfl⟩
 unfold RfIns at HP ⊢
 rw [hzb] at HP ⊢
 clear hzb
 dsimp only at HP
 obtain ⟨n, hn⟩ : ∃ n, xs.length = n := ⟨_, rfl⟩
 rw [hn] at HP ⊢
 clear hn
 go_enter Tryz.func165, Tryz.ntmps165
 go_wp2_with (go_at_call 174; refine (HP.out _ HX0.out.below).mono ?_; rintro e w1 ⟨hb1, r, rfl, hr⟩; obtain ⟨rop, rty, ra, rb, rn, raa, rac, rargs, rfa, rfc, rfrom⟩ := r; have HRR := Lib.hid hr; have hsz := HX0.out.below.size; have HSZ := Lib.hid hsz; have HX1 := Lib.hid (HX0.out.call hb1); clear hb1 hr hsz; dsimp only [InR.val]; obtain ⟨z0, z1, z2, z3, z4, z5, z6⟩ := HX1.out.r.seven; have zz := HX1.out.r.free; refine pause ?_)
 refine resume ?_
 go_wp2_with fail
 have HE := Lib.hid (put_seven HX1.out.r (.int .u8 rop) (.int .i64 rty) (.int .i64 ra) (.int .i64 rb) (.int .i64 rn) (.slice raa rargs.length rac) (.slice rfa rfrom.length rfc))
 have HBE := Lib.hid (up_seven HX1.out.below (Nat.le_succ _) (.int .u8 rop) (.int .i64 rty) (.int .i64 ra) (.int .i64 rb) (.int .i64 rn) (.slice raa rargs.length rac) (.slice rfa rfrom.length rfc))
 obtain ⟨k0, k1, k2, k3, k4, k5, k6⟩ := HE.out.seven
 exact bodyPost_ret (v := .tuple #[InR.val ⟨rop, rty, ra, rb, rn, raa, rac, rargs, rfa, rfc, rfrom⟩, .bool zb]) (by simp [results, Tryz.results165, go_sem, InR.val, k0, k1, k2, k3, k4, k5, k6]) rfl ⟨HBE.out, ⟨rop, rty, ra, rb, rn, raa, rac, rargs, rfa, rfc, rfrom⟩, rfl, fun p hp => ⟨(HRR.out p hp).1, ((HRR.out p hp).2.more HSZ.out).spare (spare_seven HX1.out.r _ _ _ _ _ _ _) (by decide)⟩⟩
theorem rhas_any {w : World} {b off c : Nat} {xs : List ByteArray} (hx : LnR.At w ⟨some ⟨b, off, none⟩, c, xs⟩) (ty : Int) {op : Nat} (hop : op ≤ 255) (h64 : xs.length ≤ 20000) : Calls Tryz.prog 165 #[.agg #[.int .u8 op, .int .i64 ty, .int .i64 0, .int .i64 0, .int .i64 0, .slice none 0 0, .slice none 0 0], .slice (some ⟨b, off, none⟩) xs.length c] w (RfIns w (hasP op ty (xs.map toL))) := by
 by_cases h22 : op = 22
 · subst h22
   exact rhas_phi hx ty h64
 · exact rhas_main hx ty hop h22 h64
theorem rhas_cut {w W : World} {b off c r : Nat} {xs : List ByteArray} (hx : LnR.At w ⟨some ⟨b, off, none⟩, c, xs⟩) (ty : Int) {op : Nat} (hop : op ≤ 255) (h64 : xs.length ≤ 20000) (hb : Below w.heap.size w W) (hn : r ≤ xs.length) : Calls Tryz.prog 165 #[.agg #[.int .u8 op, .int .i64 ty, .int .i64 0, .int .i64 0, .int .i64 0, .slice none 0 0, .slice none 0 0], .slice (if c = r then some ⟨b, off, none⟩ else some ⟨b, off + r, none⟩) (xs.length - r) (c - r)] W (RfIns W (hasP op ty ((xs.drop r).map toL))) := by
 have hl : (xs.drop r).length = xs.length - r := List.length_drop
 have h0 := (hx.on hb).drop r hn
 by_cases hc : c = r
 · rw [if_pos hc] at h0 ⊢
   have h := rhas_any h0 ty hop (by omega)
   rw [hl] at h
   exact h
 · rw [if_neg hc] at h0 ⊢
   have h := rhas_any h0 ty hop (by omega)
   rw [hl] at h
   exact h
end Go.Proofs.YtbffebcjimhapaaGreatDoor
