/-
  The reference's reader: a program.
-/
import Derived.Test.YtbffebcjimhapaaGreatDoorMg36
import Derived.Deep.CutBlock
namespace Go.Proofs.YtbffebcjimhapaaGreatDoor
set_option linter.unusedVariables false
set_option linter.unusedSimpArgs false
open Go.ChangeShapes Go.WideShapes Go.ChangeAt Go.RowKit
theorem functionQ_one (types : List Ty) (x : Bs) (L : List (List Bs)) : functionQ types [x] L = (match markP x 116 with
    | some n => (blocksR L (regOf types n)).map fun z => (⟨n, z.1⟩, z.2)
    | none => none) := by
 unfold functionQ
 cases hm : markP x 116 with
 | none => rw [markQ_none hm]; rfl
 | some n => rw [markQ_some hm]; rfl
theorem functionQ_not (types : List Ty) (W : List Bs) (L : List (List Bs)) (h : W.length ≠ 1) : functionQ types W L = none := by
 unfold functionQ
 match W, h with
 | [], _ => rfl
 | [_], h => exact absurd rfl h
 | x :: y :: t, _ =>
   cases hm : markP x 116 with
   | none => rw [markQ_none hm]; rfl
   | some n => rw [markQ_some hm]; rfl
theorem LnR.Ok.rest3 {w : World} {x : LnR} (h : x.Ok w) {b off : Nat} (ha : x.a = some ⟨b, off, none⟩) (hn : 0 < x.xs.length) (h64 : x.xs.length ≤ 20000) : Calls Tryz.prog 64 #[.slice (if x.c = 1 then (some ⟨b, off, none⟩ : Option Addr) else some ⟨b, off + 1, none⟩) (x.xs.length - 1) (x.c - 1)] w (RfKind w (kindP (x.data.drop 1))) := by
 have h1 := rkind7_any (h.rest hn) (by show (x.xs.drop 1).length ≤ 20000; rw [List.length_drop]; omega)
 have hl : x.rest.xs.length = x.xs.length - 1 := by show (x.xs.drop 1).length = _; rw [List.length_drop]
 have ha' : x.rest.a = if x.c = 1 then (some ⟨b, off, none⟩ : Option Addr) else some ⟨b, off + 1, none⟩ := by
  unfold LnR.rest
  rw [ha]
  rfl
 have hd : x.rest.data = x.data.drop 1 := by
  unfold LnR.data LnR.rest
  rw [List.map_drop]
 rw [hl, ha', hd] at h1
 exact h1
set_option maxRecDepth 100000 in
set_option maxHeartbeats 12800000 in
theorem rfprog_any {w : World} {l : LsR} (h : l.Ok w) (hl : LOk l) : Calls Tryz.prog 27 #[.slice l.a l.rows.length l.c] w (RfProg w (programQ l.data)) := by
 have HX0 := Lib.hid (ProgBox.start w)
 have HO := Lib.hid h
 have HL := Lib.hid hl
 have hlen := hl.len
 have HDL : Hid (l.data.length = l.rows.length) := Lib.hid (List.length_map ..)
 have HDA : Hid (l.data = l.rows.map LnR.data) := Lib.hid rfl
 obtain ⟨K, hK⟩ : ∃ K, programQ l.data = K := ⟨_, rfl⟩
 rw [hK]
 have HK := Lib.hid hK
 have hlc : l.c ≤ 9223372036854775807 := by have := h.hdr.cap; unfold maxLen at this; exact this
 have hlf : l.rows.length ≤ l.c := h.hdr.fit
 obtain ⟨D, hD⟩ : ∃ D, l.data = D := ⟨_, rfl⟩
 rw [hD] at HDL HDA HK
 clear h hl hK hD
 obtain ⟨LA, lc, ls⟩ := l
 dsimp only at *
 go_enter Tryz.func27, Tryz.ntmps27
 go_upto_block 0 with fail
 go_cut [5] from 13 to 45 (fun s5 wx => ∃ (a : Nat) (ts : List TyR) (A : Option Addr) (c : Nat), a ≤ ls.length ∧ s5 = .int .i64 a ∧ Hid (ts.length ≤ a) ∧ Hid (ProgBox w wx (.slice A ts.length c) (.slice none 0 0)) ∧ Hid (SubTys wx w.heap.size (.slice A ts.length c) ts) ∧ Hid (∀ t ∈ ts, t.parts.length ≤ 20000) ∧ Hid (K = (funsR (tbl ts) (D.drop a)).map fun fs => (⟨tbl ts, fs⟩ : PProg)))
 case rest =>
  obtain ⟨a1, ts, A, c, ha, rfl, HTL, HX, HTS, HPF, HK2⟩ := hcut
  clear HX0 HK
  go_wp2_with fail
  obtain ⟨L1, hL1⟩ : ∃ L1, D.drop a1 = L1 := ⟨_, rfl⟩
  rw [hL1] at HK2
  have HL1 := Lib.hid hL1
  clear hL1
  go_loopw [5] (fun i wr => ∃ (a : Nat) (fs : List FuR) (FA : Option Addr) (fc : Nat), a ≤ ls.length ∧ i = .int .i64 a ∧ Hid (fs.length ≤ a) ∧ Hid (ProgBox w wr (.slice A ts.length c) (.slice FA fs.length fc)) ∧ Hid (SubTys wr w.heap.size (.slice A ts.length c) ts) ∧ Hid (OwnFus wr w.heap.size (.slice FA fs.length fc) fs) ∧ Hid (FunsTo (tbl ts) L1 (fs.map FuR.data) (D.drop a))) (fun i _ => ls.length - (intOf i).toNat)
  case atStart => exact ⟨a1, [], none, 0, ha, rfl, Lib.hid (Nat.zero_le _), HX, HTS, Lib.hid (OwnFus.nil _ _), Lib.hid (by rw [HL1.out]; exact FunsTo.start _ _)⟩
  case round =>
   clear HX HTS ha
   obtain ⟨a, fs, FA, fc, ha, rfl, HFL, HX, HTS, HOF, HFT⟩ := hrel
   have q0 : (0 : Int) ≤ (a : Int) := Int.natCast_nonneg _
   by_cases hlt : a < ls.length
   · have q1_ : (a : Int) < (ls.length : Int) := by omega
     have HLT := Lib.hid hlt
     obtain ⟨b, off, rw_, hla, hbw, hcell, hrok, hdrop, hmem⟩ := HO.out.nth hlt
     have hla : LA = some ⟨b, off, none⟩ := hla
     subst hla
     have HBW := Lib.hid hbw
     have hr0' : 0 < rw_.xs.length := (HL.out.full rw_ hmem).1
     have HFE := Lib.hid (HL.out.few rw_ hmem)
     have HDD : Hid (D.drop a = rw_.data :: D.drop (a + 1)) := Lib.hid (by
      rw [HDA.out, ← List.map_drop, ← List.map_drop]
      exact (congrArg (List.map LnR.data) hdrop))
     obtain ⟨b2, o2, s0, ha2, hb2, hc2, hxs, hrest⟩ := hrok.first hr0'
     have HB2 := Lib.hid hb2
     have HC2 := Lib.hid hc2
     have HXS := Lib.hid hxs
     have HRO := Lib.hid hrok
     have HR0 := Lib.hid hr0'
     have HHD : Hid ((s0.toList == [102, 117, 110, 99]) = true ↔ rw_.data.headD [] = bFunc) := Lib.hid (by
      rw [beq_iff_eq, ByteArray.toList_eq]
      show _ ↔ List.headD (rw_.xs.map toL) [] = _
      rw [hxs]
      rfl)
     have HCL : Hid (w.cell? ⟨b, off + a, none⟩ = some (.slice (some ⟨b2, o2, none⟩) rw_.xs.length rw_.c)) := Lib.hid (by rw [← ha2]; exact hcell)
     have c1 : wr.cell? ⟨b, off + a, none⟩ = some (.slice (some ⟨b2, o2, none⟩) rw_.xs.length rw_.c) := (HX.out.below.cell (p := ⟨b, off + a, none⟩) HBW.out).trans HCL.out
     have c2 : wr.cell? ⟨b2, o2, none⟩ = some (.string s0) := (HX.out.below.cell (p := ⟨b2, o2, none⟩) HB2.out).trans HC2.out
     clear hcell hbw hrok hdrop hmem hc2 hb2 hxs
     obtain ⟨b0, hb0⟩ : ∃ b0, (s0.toList == [102, 117, 110, 99]) = b0 := ⟨_, rfl⟩
     rw [hb0] at HHD
     have q2 : (0 : Int) < (rw_.xs.length : Int) := by omega
     have HFT2 := HFT.out
     rw [HDD.out] at HFT2
     have HFT3 := Lib.hid HFT2
     have HRL : Hid (rw_.data.length = rw_.xs.length) := Lib.hid (List.length_map ..)
     clear HFT2 hrest
     by_cases h2 : rw_.xs.length = 2
     · cases b0 with
       | false =>
         have HI : Hid (K = none) := Lib.hid (by rw [HK2.out, HFT3.out.bad1 (fun e => by cases HHD.out.2 e)]; rfl)
         rw [h2] at c1
         obtain ⟨x0, x1⟩ := HX.out.x.two
         have xz := HX.out.x.free
         obtain ⟨r0_, r1_⟩ := HX.out.r.two
         have rz := HX.out.r.free
         go_wp2_with fail
         have HE := Lib.hid (put_two HX.out.r (.slice A ts.length c) (.slice FA fs.length fc))
         have HBE := Lib.hid (up_two HX.out.below (Nat.le_refl _) (.slice A ts.length c) (.slice FA fs.length fc))
         obtain ⟨k0, k1⟩ := HE.out.two
         exact bodyPost_ret (v := .tuple #[PrR.val ⟨A, c, ts, FA, fc, fs⟩, .bool false]) (by simp [results, Tryz.results27, go_sem, PrR.val, k0, k1]) rfl ⟨HBE.out, ⟨A, c, ts, FA, fc, fs⟩, by rw [HI.out]; rfl, fun q hq => by rw [HI.out] at hq; cases hq⟩
       | true =>
         have HB0 : Hid (rw_.data.headD [] = bFunc) := Lib.hid (HHD.out.1 rfl)
         obtain ⟨s1, hs1⟩ : ∃ s1, rw_.xs.getD 1 ⟨#[]⟩ = s1 := ⟨_, rfl⟩
         have c3 : wr.cell? ⟨b2, o2 + 1, none⟩ = some (.string s1) := (HX.out.below.cell (p := ⟨b2, o2 + 1, none⟩) HB2.out).trans (HRO.out.cellK ha2 (k := 1) (by omega) hs1)
         have HD1 : Hid (rw_.data.drop 1 = [toL s1]) := Lib.hid (by
          have e := HXS.out
          show (rw_.xs.map toL).drop 1 = _
          match hx : rw_.xs, h2 with
          | [x, y], _ =>
            rw [hx] at hs1
            rw [← hs1]
            rfl)
         have HMK := Lib.hid (fun (W : World) => rmark_is s1 116 W)
         rw [show ((116 : UInt8).toNat : Int) = 116 from rfl] at HMK
         obtain ⟨o, ho⟩ : ∃ o, markP (toL s1) 116 = o := ⟨_, rfl⟩
         obtain ⟨k, hk, hk9⟩ : ∃ k : Nat, o.getD 0 = (k : Int) ∧ k ≤ 1000 := by
          cases o with
          | none => exact ⟨0, rfl, by omega⟩
          | some n =>
            obtain ⟨h1, h2⟩ := markP_num ho
            exact ⟨n.toNat, by show n = _; omega, by omega⟩
         have HFQ : Hid (∀ n, o = some n → n = (k : Int)) := Lib.hid (fun n hn => by rw [hn] at hk; exact hk)
         rw [ho, hk] at HMK
         obtain ⟨er, her⟩ : ∃ er, errN o = er := ⟨_, rfl⟩
         rw [her] at HMK
         have HER := Lib.hid her
         have HMO := Lib.hid ho
         rw [h2] at c1 q2
         have q3 : (1 : Int) < 2 := by omega
         clear her ho hk hs1 h2 HRO HXS HCL HC2 HB2 ha2 HR0 HFE HRL hr0'
         obtain ⟨D1, hD1⟩ : ∃ D1, D.drop (a + 1) = D1 := ⟨_, rfl⟩
         obtain ⟨of, hof⟩ : ∃ of, (blocksR D1 (regOf (tbl ts) (k : Int))).map (fun z => ((⟨(k : Int), z.1⟩ : PFun), z.2)) = of := ⟨_, rfl⟩
         have HOFN := Lib.hid hof
         have HFUN := Lib.hid (fun W (hb : Below w.heap.size w W) (hT : SubTys W w.heap.size (.slice A ts.length c) ts) => by
          have h := rffun_any ((HO.out.on hb).cut (n := a + 1) rfl HLT.out) (HL.out.cut (a + 1) _ _) (by obtain ⟨A', c', e, ht⟩ := hT.tab; injection e with e1 _ e3; subst e1 e3; exact ht) HPF.out FA fs.length fc k hk9
          have hld : (LsR.mk (if lc = a + 1 then (some ⟨b, off, none⟩ : Option Addr) else some ⟨b, off + (a + 1), none⟩) (lc - (a + 1)) (ls.drop (a + 1))).data = D1 := by
           rw [← hD1, HDA.out, ← List.map_drop]
           rfl
          dsimp only at h
          rw [hld, List.length_drop, hof] at h
          exact h)
         have HD2 := Lib.hid hD1
         have HDL1 : Hid (D1.length = ls.length - (a + 1)) := Lib.hid (by rw [← hD1, List.length_drop, HDL.out])
         have hw : IntKind.i64.wrap ((a : Int) + 1) = ((a + 1 : Nat) : Int) := IntWalk.i64_in _ (by omega)
         have y1 : a + 1 ≤ ls.length := hlt
         have y2 : ((a + 1 : Nat) : Int) ≤ (ls.length : Int) := by omega
         have y3 : ((a + 1 : Nat) : Int) ≤ (lc : Int) := by omega
         have y4 : a + 1 ≤ lc := by omega
         clear hD1 hof hlt
         obtain ⟨zf, hzf⟩ : ∃ zf, of.isSome = zf := ⟨_, rfl⟩
         have HZF := Lib.hid hzf
         unfold RfFun at HFUN
         rw [hzf] at HFUN
         clear hzf
         go_upto_region 13 with (go_at_call 65; refine (HMK.out _).mono ?_; rintro e w3 ⟨rfl, hb3⟩; have HX3 := Lib.hid (HX.out.call hb3); have HT3 := Lib.hid (HTS.out.keep hb3); have HF3 := Lib.hid (HOF.out.keep hb3); clear hb3)
         have HX3d := Lib.hid (HX3.out.call ((Below.refl _ _).drew))
         have HT3d := Lib.hid (HT3.out.keep ((Below.refl _ _).drew))
         have HF3d := Lib.hid (HF3.out.keep ((Below.refl _ _).drew))
         clear c1 c2 c3 HX HTS HOF
         go_cut [10, 11, 12] from 76 to 86 (fun s10 s11 s12 wx => ∃ (g : Nat) (r : FuR) (n : Nat), s10 = .pointer (some ⟨g, 0, none⟩) ∧ s11 = .int .i64 n ∧ s12 = .bool zf ∧ Hid (ProgBox w wx (.slice A ts.length c) (.slice FA fs.length fc)) ∧ Hid (SubTys wx w.heap.size (.slice A ts.length c) ts) ∧ Hid (OwnFus wx w.heap.size (.slice FA fs.length fc) fs) ∧ Hid (Blk wx g 64 #[.int .i64 r.sig, .slice r.ba r.blocks.length r.bc]) ∧ Hid (∀ q, of = some q → r.data = q.1 ∧ r.Own wx w.heap.size ∧ q.2 = D1.drop n ∧ n ≤ D1.length))
         case first =>
          have y5 : (0 : Int) ≤ (a : Int) + 1 := by omega
          have y6 : (a : Int) + 1 ≤ (ls.length : Int) := by omega
          have y7 : (a : Int) + 1 ≤ (lc : Int) := by omega
          refine wp_region_T (fun w' => w'.cell? ⟨w.heap.size + 1, 0, none⟩ = some (.slice A ts.length c) ∧ w'.cell? ⟨w.heap.size + 1, 1, none⟩ = some (.slice FA fs.length fc)) 14 (by kernel_rfl) ⟨HX3d.out.x.cells 0, HX3d.out.x.cells 1⟩ (fun hHeld => ?_)
          have HFU := HFUN
          clear HFUN
          refine wpAnyT_takeD (i := 0) (d := 77) (by kernel_rfl) (by decide) rfl (by kernel_rfl) (by kernel_rfl) (by kernel_rfl) (by kernel_rfl) (fun _ _ _ h => h) (Or.inl ⟨by kernel_rfl, by (intro w hSw; (try dsimp only at hSw); go_simp; (try with_reducible rfl))⟩) (by assumption) ?_; (try simp only [Act.put, List.setIfInBounds_toArray, List.set_cons_zero, List.set_cons_succ])
          refine wpAnyT_takeD (i := 1) (d := 78) (by kernel_rfl) (by decide) rfl (by kernel_rfl) (by kernel_rfl) (by kernel_rfl) (by kernel_rfl) (fun _ _ _ h => h) (Or.inl ⟨by kernel_rfl, by (intro w hSw; (try dsimp only at hSw); go_simp; (try with_reducible rfl))⟩) (by assumption) ?_; (try simp only [Act.put, List.setIfInBounds_toArray, List.set_cons_zero, List.set_cons_succ])
          refine wpAnyT_takeD (i := 2) (d := 79) (by kernel_rfl) (by decide) rfl (by kernel_rfl) (by kernel_rfl) (by kernel_rfl) (by kernel_rfl) (fun _ _ _ h => h) (Or.inl ⟨by kernel_rfl, by (intro w hSw; (try dsimp only at hSw); go_simp; (try with_reducible rfl))⟩) (by assumption) ?_; (try simp only [Act.put, List.setIfInBounds_toArray, List.set_cons_zero, List.set_cons_succ])
          refine wpAnyT_takeD (i := 3) (d := 80) (by kernel_rfl) (by decide) rfl (by kernel_rfl) (by kernel_rfl) (by kernel_rfl) (by kernel_rfl) (fun _ _ _ h => h) (Or.inl ⟨by kernel_rfl, by (intro w hSw; (try dsimp only at hSw); go_simp; (try with_reducible rfl))⟩) (by assumption) ?_; (try simp only [Act.put, List.setIfInBounds_toArray, List.set_cons_zero, List.set_cons_succ])
          refine wpAnyT_takeD (i := 4) (d := 81) (by kernel_rfl) (by decide) rfl (by kernel_rfl) (by kernel_rfl) (by kernel_rfl) (by kernel_rfl) (fun _ _ _ h => h) (Or.inl ⟨by kernel_rfl, by (intro w hSw; (try dsimp only at hSw); go_simp; (try with_reducible rfl))⟩) (by assumption) ?_; (try simp only [Act.put, List.setIfInBounds_toArray, List.set_cons_zero, List.set_cons_succ])
          refine wpAnyT_takeD (i := 5) (d := 82) (by kernel_rfl) (by decide) rfl (by kernel_rfl) (by kernel_rfl) (by kernel_rfl) (by kernel_rfl) (fun _ _ _ h => h) (Or.inl ⟨by kernel_rfl, by (intro w hSw; (try dsimp only at hSw); go_simp; (try with_reducible rfl))⟩) (by assumption) ?_; (try simp only [Act.put, List.setIfInBounds_toArray, List.set_cons_zero, List.set_cons_succ])
          generalize hA3 : (if lc = a + 1 then (some (⟨b, off, none⟩ : Addr) : Option Addr) else some ⟨b, off + (a + 1), none⟩) = A3 at *
          clear hA3
          refine wpAnyT_two (i := 6) (j := 11) (by kernel_rfl) rfl rfl (fun K hK => ?_) (fun K hK => ?_)
          · go_simp
            refine (HFU.out _ HX3d.out.below HT3d.out).mono ?_
            rintro e w4 ⟨hb4, r, n, rfl, hp⟩
            obtain ⟨sg, ba, bc, bls⟩ := r
            unfold FuR.val
            dsimp only
            have HP := Lib.hid hp
            have HSZ := Lib.hid HX3d.out.below.size
            have HX4 := Lib.hid (HX3d.out.call hb4)
            have HT4 := Lib.hid (HT3d.out.keep hb4)
            have HF4 := Lib.hid (HF3d.out.keep hb4)
            clear hb4 hp
            refine hK.out _ _ (fun _ => ⟨HX4.out.x.cells 0, HX4.out.x.cells 1⟩) (fun hH => ?_); clear hHeld hK K; have hHeld := hH (by decide); clear hH
            refine wpAnyT_takeD (i := 7) (d := 76) (by kernel_rfl) (by decide) rfl (by kernel_rfl) (by kernel_rfl) (by kernel_rfl) (by kernel_rfl) (fun _ _ _ h => h) (Or.inl ⟨by kernel_rfl, by (intro w hSw; (try dsimp only at hSw); go_simp; (try with_reducible rfl))⟩) (by assumption) ?_; (try simp only [Act.put, List.setIfInBounds_toArray, List.set_cons_zero, List.set_cons_succ])
            refine wpAnyT_takeD (i := 8) (d := 84) (by kernel_rfl) (by decide) rfl (by kernel_rfl) (by kernel_rfl) (by kernel_rfl) (by kernel_rfl) (fun _ _ _ h => h) (Or.inl ⟨by kernel_rfl, by (intro w hSw; (try dsimp only at hSw); go_simp; (try with_reducible rfl))⟩) (by assumption) ?_; (try simp only [Act.put, List.setIfInBounds_toArray, List.set_cons_zero, List.set_cons_succ])
            refine wpAnyT_takeD (i := 9) (d := 85) (by kernel_rfl) (by decide) rfl (by kernel_rfl) (by kernel_rfl) (by kernel_rfl) (by kernel_rfl) (fun _ _ _ h => h) (Or.inl ⟨by kernel_rfl, by (intro w hSw; (try dsimp only at hSw); go_simp; (try with_reducible rfl))⟩) (by assumption) ?_; (try simp only [Act.put, List.setIfInBounds_toArray, List.set_cons_zero, List.set_cons_succ])
            refine wpAnyT_takeD (i := 10) (d := 86) (by kernel_rfl) (by decide) rfl (by kernel_rfl) (by kernel_rfl) (by kernel_rfl) (by kernel_rfl) (fun _ _ _ h => h) (Or.inl ⟨by kernel_rfl, by (intro w hSw; (try dsimp only at hSw); go_simp; (try with_reducible rfl))⟩) (by assumption) ?_; (try simp only [Act.put, List.setIfInBounds_toArray, List.set_cons_zero, List.set_cons_succ])
            refine wpAnyT_one (i := 11) (by kernel_rfl) rfl (fun K hK => ?_)
            go_simp
            have HX5 := Lib.hid (HX4.out.new #[.int .i64 0, .slice none 0 0] 64)
            refine hK.out _ _ (fun _ => ⟨HX5.out.x.cells 0, HX5.out.x.cells 1⟩) (fun hH => ?_); clear hHeld hK K; have hHeld := hH (by decide); clear hH
            refine wpAnyT_one (i := 12) (by kernel_rfl) rfl (fun K hK => ?_)
            have HN5 := Lib.hid (Blk.new w4 64 #[.int .i64 0, .slice none 0 0])
            obtain ⟨m0, m1⟩ := HN5.out.two
            have mz := HN5.out.free
            go_simp
            have HB6 : Hid (Below w4.heap.size w4 (w4.alloc (.cells #[.int .i64 sg, .slice ba bls.length bc] 64))) := Lib.hid ((Below.refl _ _).alloc (Nat.le_refl _) _)
            have HX6 := Lib.hid (HX4.out.call HB6.out)
            have HT6 := Lib.hid (HT4.out.keep HB6.out)
            have HF6 := Lib.hid (HF4.out.keep HB6.out)
            have HK6 := Lib.hid (Blk.new w4 64 #[(.int .i64 sg), (.slice ba bls.length bc)])
            refine hK.out _ _ (fun _ => ⟨HX6.out.x.cells 0, HX6.out.x.cells 1⟩) (fun hH => ?_); clear hHeld hK K; have hHeld := hH (by decide); clear hH
            refine wpAnyT_one (i := 13) (by kernel_rfl) rfl (fun K hK => ?_)
            go_simp
            refine hK.out _ _ (fun _ => ⟨HX6.out.x.cells 0, HX6.out.x.cells 1⟩) (fun hH => ?_); clear hHeld hK K; have hHeld := hH (by decide); clear hH
            refine wpAnyT_one (i := 14) (by kernel_rfl) rfl (fun K hK => ?_)
            go_simp
            refine hK.out _ _ (fun e => absurd rfl e) (fun hH => ?_); refine wpAnyT_done (by kernel_rfl) ?_ _; clear hHeld hK K hH
            clear m0 m1 mz
            go_wp2_with fail
            go_meet
            exact ⟨w4.heap.size, ⟨sg, ba, bc, bls⟩, n, rfl, rfl, rfl, HX6, HT6, HF6, HK6, Lib.hid (fun q hq => ⟨(HP.out q hq).1, OwnBls.keep (OwnBls.more (HP.out q hq).2.1 HSZ.out) HB6.out, (HP.out q hq).2.2⟩)⟩
          · go_simp
            have HX5 := Lib.hid (HX3d.out.new #[.int .i64 0, .slice none 0 0] 64)
            have HT5 := Lib.hid (HT3d.out.keep (w' := w3.drew.alloc (.cells #[.int .i64 0, .slice none 0 0] 64)) ((Below.refl _ _).alloc (Nat.le_refl _) _))
            refine hK.out _ _ (fun _ => ⟨HX5.out.x.cells 0, HX5.out.x.cells 1⟩) (fun hH => ?_); clear hHeld hK K; have hHeld := hH (by decide); clear hH
            refine wpAnyT_one (i := 6) (by kernel_rfl) rfl (fun K hK => ?_)
            go_simp
            refine (HFU.out _ HX5.out.below HT5.out).mono ?_
            rintro e w4 ⟨hb4, r, n, rfl, hp⟩
            obtain ⟨sg, ba, bc, bls⟩ := r
            unfold FuR.val
            dsimp only
            have HP := Lib.hid hp
            have HSZ := Lib.hid HX5.out.below.size
            have HX4 := Lib.hid (HX5.out.call hb4)
            have HN4 : Hid (Blk w4 w3.heap.size 64 #[.int .i64 0, .slice none 0 0]) := Lib.hid ((Blk.new w3.drew 64 #[.int .i64 0, .slice none 0 0]).beneath hb4)
            have HBB : Hid (Below w3.drew.heap.size w3.drew w4) := Lib.hid ((show Below w3.drew.heap.size w3.drew (w3.drew.alloc (.cells #[.int .i64 0, .slice none 0 0] 64)) from (Below.refl _ _).alloc (Nat.le_refl _) _).trans (hb4.mono (by rw [World.size_alloc]; exact Nat.le_succ _)))
            clear hb4 hp
            refine hK.out _ _ (fun _ => ⟨HX4.out.x.cells 0, HX4.out.x.cells 1⟩) (fun hH => ?_); clear hHeld hK K; have hHeld := hH (by decide); clear hH
            refine wpAnyT_takeD (i := 7) (d := 76) (by kernel_rfl) (by decide) rfl (by kernel_rfl) (by kernel_rfl) (by kernel_rfl) (by kernel_rfl) (fun _ _ _ h => h) (Or.inl ⟨by kernel_rfl, by (intro w hSw; (try dsimp only at hSw); go_simp; (try with_reducible rfl))⟩) (by assumption) ?_; (try simp only [Act.put, List.setIfInBounds_toArray, List.set_cons_zero, List.set_cons_succ])
            refine wpAnyT_takeD (i := 8) (d := 84) (by kernel_rfl) (by decide) rfl (by kernel_rfl) (by kernel_rfl) (by kernel_rfl) (by kernel_rfl) (fun _ _ _ h => h) (Or.inl ⟨by kernel_rfl, by (intro w hSw; (try dsimp only at hSw); go_simp; (try with_reducible rfl))⟩) (by assumption) ?_; (try simp only [Act.put, List.setIfInBounds_toArray, List.set_cons_zero, List.set_cons_succ])
            refine wpAnyT_takeD (i := 9) (d := 85) (by kernel_rfl) (by decide) rfl (by kernel_rfl) (by kernel_rfl) (by kernel_rfl) (by kernel_rfl) (fun _ _ _ h => h) (Or.inl ⟨by kernel_rfl, by (intro w hSw; (try dsimp only at hSw); go_simp; (try with_reducible rfl))⟩) (by assumption) ?_; (try simp only [Act.put, List.setIfInBounds_toArray, List.set_cons_zero, List.set_cons_succ])
            refine wpAnyT_takeD (i := 10) (d := 86) (by kernel_rfl) (by decide) rfl (by kernel_rfl) (by kernel_rfl) (by kernel_rfl) (by kernel_rfl) (fun _ _ _ h => h) (Or.inl ⟨by kernel_rfl, by (intro w hSw; (try dsimp only at hSw); go_simp; (try with_reducible rfl))⟩) (by assumption) ?_; (try simp only [Act.put, List.setIfInBounds_toArray, List.set_cons_zero, List.set_cons_succ])
            refine wpAnyT_one (i := 12) (by kernel_rfl) rfl (fun K hK => ?_)
            obtain ⟨m0, m1⟩ := HN4.out.two
            have mz := HN4.out.free
            go_simp
            have HB6 : Hid (Below w3.drew.heap.size w3.drew ((w4.setCell ⟨w3.heap.size, 0, none⟩ (.int .i64 sg)).setCell ⟨w3.heap.size, 1, none⟩ (.slice ba bls.length bc))) := Lib.hid ((HBB.out.setCell (p := ⟨w3.heap.size, 0, none⟩) (Nat.le_refl _) _).setCell (p := ⟨w3.heap.size, 1, none⟩) (Nat.le_refl _) _)
            have HX6 := Lib.hid (HX3d.out.call HB6.out)
            have HT6 := Lib.hid (HT3d.out.keep HB6.out)
            have HF6 := Lib.hid (HF3d.out.keep HB6.out)
            have HK6 := Lib.hid (put_two HN4.out (.int .i64 sg) (.slice ba bls.length bc))
            have HS6 := Lib.hid (spare_two HN4.out (.int .i64 sg) (.slice ba bls.length bc))
            refine hK.out _ _ (fun _ => ⟨HX6.out.x.cells 0, HX6.out.x.cells 1⟩) (fun hH => ?_); clear hHeld hK K; have hHeld := hH (by decide); clear hH
            refine wpAnyT_one (i := 13) (by kernel_rfl) rfl (fun K hK => ?_)
            go_simp
            refine hK.out _ _ (fun _ => ⟨HX6.out.x.cells 0, HX6.out.x.cells 1⟩) (fun hH => ?_); clear hHeld hK K; have hHeld := hH (by decide); clear hH
            refine wpAnyT_one (i := 14) (by kernel_rfl) rfl (fun K hK => ?_)
            go_simp
            refine hK.out _ _ (fun e => absurd rfl e) (fun hH => ?_); refine wpAnyT_done (by kernel_rfl) ?_ _; clear hHeld hK K hH
            clear m0 m1 mz
            go_wp2_with fail
            go_meet
            exact ⟨w3.heap.size, ⟨sg, ba, bc, bls⟩, n, rfl, rfl, rfl, HX6, HT6, HF6, HK6, Lib.hid (fun q hq => ⟨(HP.out q hq).1, OwnBls.spare (OwnBls.more (HP.out q hq).2.1 HSZ.out) HS6.out (by decide) (by decide) (by decide), (HP.out q hq).2.2⟩)⟩
         case rest =>
          obtain ⟨g, r, n, rfl, rfl, rfl, HXc, HTc, HFc, HKc, HPc⟩ := hcut
          obtain ⟨sg, ba, bc, bls⟩ := r
          dsimp only at HKc
          have HFN : Hid (functionQ (tbl ts) (rw_.data.drop 1) (D.drop (a + 1)) = o.bind fun _ => of) := Lib.hid (by
           rw [HD1.out, functionQ_one, HMO.out, HD2.out, ← HOFN.out]
           cases o with
           | none => rfl
           | some m =>
             obtain rfl := HFQ.out m rfl
             rfl)
          clear HX3d HT3d HF3d HX3 HT3 HF3 HFUN HMK HD1 HMO HOFN
          cases o with
          | none =>
            have her : er = errN none := HER.out.symm
            subst her
            dsimp only [errN]
            dsimp only [Option.bind] at HFN
            have HI : Hid (K = none) := Lib.hid (by rw [HK2.out, HFT3.out.bad2 HFN.out]; rfl)
            obtain ⟨x0, x1⟩ := HXc.out.x.two
            have xz := HXc.out.x.free
            obtain ⟨r0_, r1_⟩ := HXc.out.r.two
            have rz := HXc.out.r.free
            go_wp2_with fail
            have HE := Lib.hid (put_two HXc.out.r (.slice A ts.length c) (.slice FA fs.length fc))
            have HBE := Lib.hid (up_two HXc.out.below (Nat.le_refl _) (.slice A ts.length c) (.slice FA fs.length fc))
            obtain ⟨k0, k1⟩ := HE.out.two
            exact bodyPost_ret (v := .tuple #[PrR.val ⟨A, c, ts, FA, fc, fs⟩, .bool false]) (by simp [results, Tryz.results27, go_sem, PrR.val, k0, k1]) rfl ⟨HBE.out, ⟨A, c, ts, FA, fc, fs⟩, by rw [HI.out]; rfl, fun q hq => by rw [HI.out] at hq; cases hq⟩
          | some nn =>
            have her : er = errN (some nn) := HER.out.symm
            subst her
            dsimp only [errN]
            dsimp only [Option.bind] at HFN
            cases of with
            | none =>
              obtain rfl : false = zf := HZF.out
              have HI : Hid (K = none) := Lib.hid (by rw [HK2.out, HFT3.out.bad2 HFN.out]; rfl)
              obtain ⟨x0, x1⟩ := HXc.out.x.two
              have xz := HXc.out.x.free
              obtain ⟨r0_, r1_⟩ := HXc.out.r.two
              have rz := HXc.out.r.free
              go_wp2_with fail
              have HE := Lib.hid (put_two HXc.out.r (.slice A ts.length c) (.slice FA fs.length fc))
              have HBE := Lib.hid (up_two HXc.out.below (Nat.le_refl _) (.slice A ts.length c) (.slice FA fs.length fc))
              obtain ⟨k0, k1⟩ := HE.out.two
              exact bodyPost_ret (v := .tuple #[PrR.val ⟨A, c, ts, FA, fc, fs⟩, .bool false]) (by simp [results, Tryz.results27, go_sem, PrR.val, k0, k1]) rfl ⟨HBE.out, ⟨A, c, ts, FA, fc, fs⟩, by rw [HI.out]; rfl, fun q hq => by rw [HI.out] at hq; cases hq⟩
            | some q =>
              obtain rfl : true = zf := HZF.out
              obtain ⟨pf, L2⟩ := q
              obtain ⟨hp1, hp2, hp3, hp4⟩ := HPc.out (pf, L2) rfl
              dsimp only at hp1 hp3
              have HP1 := Lib.hid hp1
              have HP2 := Lib.hid hp2
              have HP3 := Lib.hid hp3
              have hn1 : n ≤ ls.length - (a + 1) := by rw [HDL1.out] at hp4; exact hp4
              clear hp1 hp2 hp3 hp4
              obtain ⟨n0, n1⟩ := HKc.out.two
              have HLB := Lib.hid HXc.out.below.size
              have hw3 : IntKind.i64.wrap (((a + 1 : Nat) : Int) + (n : Int)) = ((a + 1 + n : Nat) : Int) := IntWalk.i64_in _ (by omega)
              obtain ⟨x0, x1⟩ := HXc.out.x.two
              have xz := HXc.out.x.free
              go_wp2_with (at_builtin; refine wpList_appFu rfl (.tmp 95) (.tmp 97) rfl w.heap.size _ fs ⟨sg, ba, bc, bls⟩ rfl HFc.out rfl HP2.out (by have := HFL.out; omega) HLB.out ?_; intro v8 w8 hown8 hg8; refine pause ?_)
              obtain ⟨fs2, hfs2⟩ : ∃ fs2, fs ++ [(⟨sg, ba, bc, bls⟩ : FuR)] = fs2 := ⟨_, rfl⟩
              rw [hfs2] at hown8
              have HRS := Lib.hid hfs2
              have HX8 := Lib.hid ((HXc.out.new #[.int .i64 sg, .slice ba bls.length bc] 64).grownF (HFc.out.keep ((Below.refl _ _).alloc (Nat.le_refl _) _)) hg8)
              have HT8 := Lib.hid ((HTc.out.keep (w' := wc.alloc (.cells #[.int .i64 sg, .slice ba bls.length bc] 64)) ((Below.refl _ _).alloc (Nat.le_refl _) _)).spare (Spare.grown (HFc.out.keep ((Below.refl _ _).alloc (Nat.le_refl _) _)).row hg8) (by decide) (by decide))
              obtain ⟨A8, c8, hv8, _⟩ := hown8.form
              subst hv8
              have HF8 := Lib.hid hown8
              clear hown8 hg8 hfs2 x0 x1 xz n0 n1
              have x1 : w8.cell? ⟨w.heap.size + 1, 1, none⟩ = some (.slice FA fs.length fc) := HX8.out.x.cells 1
              have xz := HX8.out.x.free
              refine resume ?_
              go_wp2_with fail
              have HX9 := Lib.hid (HX8.out.put1 (.slice A8 fs2.length c8))
              have HT9 := Lib.hid (HT8.out.spare (Spare.set HX8.out.x (j := 1) (.slice A8 fs2.length c8)) (by decide) (by decide))
              have HF9 := Lib.hid (HF8.out.spare (Spare.set HX8.out.x (j := 1) (.slice A8 fs2.length c8)) (by decide) (by decide) (by decide) (by decide))
              go_roundw
              case rel =>
               refine ⟨a + 1 + n, fs2, A8, c8, by omega, by first | rfl | go_num, Lib.hid (by rw [← HRS.out, List.length_append]; have := HFL.out; show fs.length + 1 ≤ _; omega), HX9, HT9, HF9, Lib.hid ?_⟩
               have h := HFT3.out.step HB0.out HFN.out
               rw [← HRS.out, List.map_append]
               have e : List.map FuR.data [(⟨sg, ba, bc, bls⟩ : FuR)] = [pf] := congrArg (fun z => [z]) HP1.out
               rw [e]
               have e2 : L2 = D.drop (a + 1 + n) := by rw [HP3.out, ← HD2.out, List.drop_drop]
               rw [← e2]
               exact h
              case measure => simp [intOf]; omega
     · have y1 : ((rw_.xs.length : Int) == 2) = false := by rw [beq_eq_false_iff_ne]; omega
       have y2 : ((rw_.xs.length : Int) != 2) = true := by rw [bne_iff_ne]; omega
       have HI : Hid (K = none) := Lib.hid (by
        rw [HK2.out]
        by_cases hh : rw_.data.headD [] = bFunc
        · rw [HFT3.out.bad2 (functionQ_not _ _ _ (by rw [List.length_drop, HRL.out]; omega))]
          rfl
        · rw [HFT3.out.bad1 hh]
          rfl)
       clear h2
       obtain ⟨x0, x1⟩ := HX.out.x.two
       have xz := HX.out.x.free
       obtain ⟨r0_, r1_⟩ := HX.out.r.two
       have rz := HX.out.r.free
       go_wp2_with fail
       have HE := Lib.hid (put_two HX.out.r (.slice A ts.length c) (.slice FA fs.length fc))
       have HBE := Lib.hid (up_two HX.out.below (Nat.le_refl _) (.slice A ts.length c) (.slice FA fs.length fc))
       obtain ⟨k0, k1⟩ := HE.out.two
       exact bodyPost_ret (v := .tuple #[PrR.val ⟨A, c, ts, FA, fc, fs⟩, .bool false]) (by simp [results, Tryz.results27, go_sem, PrR.val, k0, k1]) rfl ⟨HBE.out, ⟨A, c, ts, FA, fc, fs⟩, by rw [HI.out]; rfl, fun q hq => by rw [HI.out] at hq; cases hq⟩
   · obtain rfl : a = ls.length := by omega
     have HI : Hid (K = some ⟨tbl ts, fs.map FuR.data⟩) := Lib.hid (by
      rw [HK2.out]
      have h := HFT.out
      rw [← HDL.out, List.drop_length] at h
      rw [h.done]
      rfl)
     obtain ⟨x0, x1⟩ := HX.out.x.two
     have xz := HX.out.x.free
     obtain ⟨r0_, r1_⟩ := HX.out.r.two
     have rz := HX.out.r.free
     go_wp2_with fail
     have HE := Lib.hid (put_two HX.out.r (.slice A ts.length c) (.slice FA fs.length fc))
     have HBE := Lib.hid (up_two HX.out.below (Nat.le_refl _) (.slice A ts.length c) (.slice FA fs.length fc))
     obtain ⟨k0, k1⟩ := HE.out.two
     exact bodyPost_ret (v := .tuple #[PrR.val ⟨A, c, ts, FA, fc, fs⟩, .bool true]) (by simp [results, Tryz.results27, go_sem, PrR.val, k0, k1]) rfl ⟨HBE.out, ⟨A, c, ts, FA, fc, fs⟩, by rw [HI.out]; rfl, fun q hq => by rw [HI.out] at hq; injection hq with hq; subst hq; exact ⟨rfl, HTS.out.spare (spare_two HX.out.r (.slice A ts.length c) (.slice FA fs.length fc)) (by decide) (by decide), HOF.out.spare (spare_two HX.out.r (.slice A ts.length c) (.slice FA fs.length fc)) (by decide) (by decide) (by decide) (by decide)⟩⟩
 case first =>
  go_wp2_with fail
  go_loopw [5] (fun i wr => ∃ (a : Nat) (ts : List TyR) (A : Option Addr) (c : Nat), a ≤ ls.length ∧ i = .int .i64 a ∧ Hid (ts.length ≤ a) ∧ Hid (ProgBox w wr (.slice A ts.length c) (.slice none 0 0)) ∧ Hid (SubTys wr w.heap.size (.slice A ts.length c) ts) ∧ Hid (TypesTo D (tbl ts) (D.drop a)) ∧ Hid (∀ t ∈ ts, t.parts.length ≤ 20000)) (fun i _ => ls.length - (intOf i).toNat)
  case atStart => exact ⟨0, [], none, 0, Nat.zero_le _, rfl, Lib.hid (Nat.le_refl _), HX0, Lib.hid (SubTys.nil _ _), Lib.hid (TypesTo.start _), Lib.hid (fun t ht => by cases ht)⟩
  case round =>
   obtain ⟨a, ts, A, c, ha, rfl, HTL, HX, HTS, HTT, HPF⟩ := hrel
   have q0 : (0 : Int) ≤ (a : Int) := Int.natCast_nonneg _
   by_cases hlt : a < ls.length
   · have q1 : (a : Int) < (ls.length : Int) := by omega
     have HLT := Lib.hid hlt
     obtain ⟨b, off, rw_, hla, hbw, hcell, hrok, hdrop, hmem⟩ := HO.out.nth hlt
     have hla : LA = some ⟨b, off, none⟩ := hla
     subst hla
     have HBW := Lib.hid hbw
     have hr0' : 0 < rw_.xs.length := (HL.out.full rw_ hmem).1
     have HFE := Lib.hid (HL.out.few rw_ hmem)
     have HDD : Hid (D.drop a = rw_.data :: D.drop (a + 1)) := Lib.hid (by
      rw [HDA.out, ← List.map_drop, ← List.map_drop]
      exact (congrArg (List.map LnR.data) hdrop))
     obtain ⟨b2, o2, s0, ha2, hb2, hc2, hxs, hrest⟩ := hrok.first hr0'
     have HB2 := Lib.hid hb2
     have HC2 := Lib.hid hc2
     have HXS := Lib.hid hxs
     have HRO := Lib.hid hrok
     have HR0 := Lib.hid hr0'
     have HHD : Hid ((s0.toList == [116, 121, 112, 101]) = true ↔ rw_.data.headD [] = bType) := Lib.hid (by
      rw [beq_iff_eq, ByteArray.toList_eq]
      show _ ↔ List.headD (rw_.xs.map toL) [] = _
      rw [hxs]
      rfl)
     have HCL : Hid (w.cell? ⟨b, off + a, none⟩ = some (.slice (some ⟨b2, o2, none⟩) rw_.xs.length rw_.c)) := Lib.hid (by rw [← ha2]; exact hcell)
     have c1 : wr.cell? ⟨b, off + a, none⟩ = some (.slice (some ⟨b2, o2, none⟩) rw_.xs.length rw_.c) := (HX.out.below.cell (p := ⟨b, off + a, none⟩) HBW.out).trans HCL.out
     have c2 : wr.cell? ⟨b2, o2, none⟩ = some (.string s0) := (HX.out.below.cell (p := ⟨b2, o2, none⟩) HB2.out).trans HC2.out
     clear hcell hbw hrok hdrop hmem hc2 hb2 hxs hrest
     obtain ⟨b0, hb0⟩ : ∃ b0, (s0.toList == [116, 121, 112, 101]) = b0 := ⟨_, rfl⟩
     rw [hb0] at HHD
     have q2 : (0 : Int) < (rw_.xs.length : Int) := by omega
     have HTT2 := HTT.out
     rw [HDD.out] at HTT2
     have HTT3 := Lib.hid HTT2
     have HKI := Lib.hid (fun W (hb : Below w.heap.size w W) => (HRO.out.on hb).rest3 ha2 HR0.out HFE.out)
     have HKT : Hid (lineQ (kindQ (rw_.data.drop 1)) = kindP (rw_.data.drop 1)) := Lib.hid (kind_tie _)
     have HRL : Hid (rw_.data.length = rw_.xs.length) := Lib.hid (List.length_map ..)
     have hrc : rw_.xs.length ≤ rw_.c := HRO.out.at_.hdr.fit
     have hrc2 : rw_.c ≤ 9223372036854775807 := by have := HRO.out.at_.hdr.cap; unfold maxLen at this; exact this
     clear HTT2 HXS HRO ha2 HCL HB2 HC2 HBW
     cases b0 with
     | false =>
       have HK2 : Hid (K = (funsR (tbl ts) (D.drop a)).map fun fs => (⟨tbl ts, fs⟩ : PProg)) := Lib.hid (by
        rw [← HK.out]
        unfold programQ
        rw [HTT3.out.done (fun e => by cases HHD.out.2 e), ← HDD.out])
       clear HTT HTT3 HKI HKT HHD HK HRL
       go_wp2_with fail
       go_meet
       exact ⟨a, ts, A, c, ha, rfl, HTL, HX, HTS, HPF, HK2⟩
     | true =>
       have HB0 : Hid (rw_.data.headD [] = bType) := Lib.hid (HHD.out.1 rfl)
       obtain ⟨ok, hok⟩ : ∃ ok, kindP (rw_.data.drop 1) = ok := ⟨_, rfl⟩
       rw [hok] at HKT HKI
       have y1 : 1 ≤ rw_.xs.length := HR0.out
       have y2 : (1 : Int) ≤ (rw_.xs.length : Int) := by omega
       have HFE2 : Hid ((rw_.data.drop 1).length ≤ 20000) := Lib.hid (by rw [List.length_drop, HRL.out]; have := HFE.out; omega)
       obtain ⟨W0, hW0⟩ : ∃ W0, rw_.data = W0 := ⟨_, rfl⟩
       rw [hW0] at HB0 HKT HTT3 HFE2
       clear hok HRL HDD HHD HR0 HFE hW0
       obtain ⟨ra, rc, rxs⟩ := rw_
       dsimp only at *
       obtain ⟨rn, hrn⟩ : ∃ rn, rxs.length = rn := ⟨_, rfl⟩
       rw [hrn] at HKI c1 q2 hrc y1 y2 hr0'
       clear hrn
       unfold RfKind at HKI
       by_cases hcc : rc = 1
       · have HK1 := Lib.hid (fun W hb => by
          have h := HKI.out W hb
          rw [if_pos hcc, hcc, Nat.sub_self, show rn - 1 = 0 by omega] at h
          exact h)
         clear HKI
         subst hcc
         obtain rfl : rn = 1 := by omega
         cases ok with
         | none =>
           have HI : Hid (K = none) := Lib.hid (by
            rw [← HK.out]
            unfold programQ
            rw [HTT3.out.bad HB0.out HKT.out])
           dsimp only [Option.isSome] at HK1
           go_wp2_with (go_at_call 64; refine (HK1.out _ HX.out.below).mono ?_; rintro e w4 ⟨hb4, p, rfl, hp⟩; have HP := Lib.hid hp; obtain ⟨kd, te, tm, pa, pc, pt⟩ := p; have HX4 := Lib.hid (HX.out.call hb4); have HT4 := Lib.hid (HTS.out.keep hb4); clear hp hb4; dsimp only [TyR.val]; refine pause ?_)
           clear c1 c2
           have HX5 := Lib.hid (HX4.out.new #[.int .u8 kd, .int .i64 te, .int .i64 tm, .slice pa pt.length pc] 78)
           obtain ⟨x0, x1⟩ := HX5.out.x.two
           have xz := HX5.out.x.free
           obtain ⟨r0_, r1_⟩ := HX5.out.r.two
           have rz := HX5.out.r.free
           refine resume ?_
           go_wp2_with fail
           have HE := Lib.hid (put_two HX5.out.r (.slice A ts.length c) (.slice none 0 0))
           have HBE := Lib.hid (up_two HX5.out.below (Nat.le_refl _) (.slice A ts.length c) (.slice none 0 0))
           obtain ⟨k0, k1⟩ := HE.out.two
           exact bodyPost_ret (v := .tuple #[PrR.val ⟨A, c, ts, none, 0, []⟩, .bool false]) (by simp [results, Tryz.results27, go_sem, PrR.val, k0, k1]) rfl ⟨HBE.out, ⟨A, c, ts, none, 0, []⟩, by rw [HI.out]; rfl, fun q hq => by rw [HI.out] at hq; cases hq⟩
         | some ty =>
           have HN := Lib.hid (HTT3.out.step HB0.out HKT.out)
           have HPL : Hid (ty.parts.length ≤ 20000) := Lib.hid (by
            have h := kindQ_parts (lineQ_some HKT.out)
            exact Nat.le_trans h HFE2.out)
           dsimp only [Option.isSome] at HK1
           go_wp2_with (go_at_call 64; refine (HK1.out _ HX.out.below).mono ?_; rintro e w4 ⟨hb4, p, rfl, hp⟩; have HP := Lib.hid hp; obtain ⟨kd, te, tm, pa, pc, pt⟩ := p; have HX4 := Lib.hid (HX.out.call hb4); have HT4 := Lib.hid (HTS.out.keep hb4); clear hp hb4; dsimp only [TyR.val]; refine pause ?_)
           clear c1 c2
           obtain ⟨hd, hsub, hkd⟩ := HP.out ty rfl
           have HD1 := Lib.hid hd
           have HX5 := Lib.hid (HX4.out.new #[.int .u8 kd, .int .i64 te, .int .i64 tm, .slice pa pt.length pc] 78)
           have HT5 := Lib.hid (HT4.out.keep (w' := (w4.alloc (.cells #[.int .u8 kd, .int .i64 te, .int .i64 tm, .slice pa pt.length pc] 78))) ((Below.refl _ _).alloc (Nat.le_refl _) _))
           have HSB : Hid (SubInts (w4.alloc (.cells #[.int .u8 kd, .int .i64 te, .int .i64 tm, .slice pa pt.length pc] 78)) w.heap.size pa pc pt) := Lib.hid ((hsub.more HX.out.below.size).keep ((Below.refl _ _).alloc (Nat.le_refl _) _))
           have hkd : kd ≤ 255 := hkd
           have HLB := Lib.hid HX5.out.below.size
           clear hd hsub
           obtain ⟨x0, x1⟩ := HX5.out.x.two
           have xz := HX5.out.x.free
           refine resume ?_
           go_wp2_with (at_builtin; refine wpList_appSub rfl (.tmp 39) (.tmp 41) rfl w.heap.size _ ts ⟨kd, te, tm, pa, pc, pt⟩ rfl HT5.out (by rw [World.size_alloc]; rfl) HSB.out hkd (by have := HTL.out; omega) HLB.out ?_; intro v8 w8 hown8 hg8; refine pause ?_)
           obtain ⟨ts2, hts2⟩ : ∃ ts2, ts ++ [(⟨kd, te, tm, pa, pc, pt⟩ : TyR)] = ts2 := ⟨_, rfl⟩
           rw [hts2] at hown8
           have HRS := Lib.hid hts2
           have HX8 := Lib.hid ((HX5.out.new #[.int .u8 kd, .int .i64 te, .int .i64 tm, .slice pa pt.length pc] 78).grownT (HT5.out.keep ((Below.refl _ _).alloc (Nat.le_refl _) _)) hg8)
           obtain ⟨A8, c8, hv8, _⟩ := hown8.tab
           subst hv8
           have HT8 := Lib.hid hown8
           clear hown8 hg8 hts2 x0 x1 xz
           have x0 : w8.cell? ⟨w.heap.size + 1, 0, none⟩ = some (.slice A ts.length c) := HX8.out.x.cells 0
           have xz := HX8.out.x.free
           refine resume ?_
           go_wp2_with fail
           have HX9 := Lib.hid (HX8.out.put0 (.slice A8 ts2.length c8))
           have HT9 := Lib.hid (HT8.out.spare (Spare.set HX8.out.x (j := 0) (.slice A8 ts2.length c8)) (by decide) (by decide))
           go_roundw
           case rel =>
            refine ⟨a + 1, ts2, A8, c8, HLT.out, by go_num, Lib.hid (by rw [← HRS.out, List.length_append]; have := HTL.out; show ts.length + 1 ≤ _; omega), HX9, HT9, Lib.hid ?_, Lib.hid ?_⟩
            · have h := HN.out
              rw [← HRS.out]
              unfold tbl at h ⊢
              rw [List.map_append]
              have e : List.map TyR.data [(⟨kd, te, tm, pa, pc, pt⟩ : TyR)] = [ty] := congrArg (fun z => [z]) HD1.out
              rw [e]
              exact h
            · intro t ht
              rw [← HRS.out] at ht
              rcases List.mem_append.1 ht with ht | ht
              · exact HPF.out t ht
              · obtain rfl := List.mem_singleton.1 ht
                have h := HPL.out
                rw [← HD1.out] at h
                exact h
           case measure => simp [intOf]; have := HLT.out; omega
       · have HK1 := Lib.hid (fun W hb => by
          have h := HKI.out W hb
          rw [if_neg hcc] at h
          exact h)
         clear HKI
         have y3 : 1 ≤ rc := by omega
         have y4 : (1 : Int) ≤ (rc : Int) := by omega
         cases ok with
         | none =>
           have HI : Hid (K = none) := Lib.hid (by
            rw [← HK.out]
            unfold programQ
            rw [HTT3.out.bad HB0.out HKT.out])
           dsimp only [Option.isSome] at HK1
           go_wp2_with (go_at_call 64; refine (HK1.out _ HX.out.below).mono ?_; rintro e w4 ⟨hb4, p, rfl, hp⟩; have HP := Lib.hid hp; obtain ⟨kd, te, tm, pa, pc, pt⟩ := p; have HX4 := Lib.hid (HX.out.call hb4); have HT4 := Lib.hid (HTS.out.keep hb4); clear hp hb4; dsimp only [TyR.val]; refine pause ?_)
           clear c1 c2
           have HX5 := Lib.hid (HX4.out.new #[.int .u8 kd, .int .i64 te, .int .i64 tm, .slice pa pt.length pc] 78)
           obtain ⟨x0, x1⟩ := HX5.out.x.two
           have xz := HX5.out.x.free
           obtain ⟨r0_, r1_⟩ := HX5.out.r.two
           have rz := HX5.out.r.free
           refine resume ?_
           go_wp2_with fail
           have HE := Lib.hid (put_two HX5.out.r (.slice A ts.length c) (.slice none 0 0))
           have HBE := Lib.hid (up_two HX5.out.below (Nat.le_refl _) (.slice A ts.length c) (.slice none 0 0))
           obtain ⟨k0, k1⟩ := HE.out.two
           exact bodyPost_ret (v := .tuple #[PrR.val ⟨A, c, ts, none, 0, []⟩, .bool false]) (by simp [results, Tryz.results27, go_sem, PrR.val, k0, k1]) rfl ⟨HBE.out, ⟨A, c, ts, none, 0, []⟩, by rw [HI.out]; rfl, fun q hq => by rw [HI.out] at hq; cases hq⟩
         | some ty =>
           have HN := Lib.hid (HTT3.out.step HB0.out HKT.out)
           have HPL : Hid (ty.parts.length ≤ 20000) := Lib.hid (by
            have h := kindQ_parts (lineQ_some HKT.out)
            exact Nat.le_trans h HFE2.out)
           dsimp only [Option.isSome] at HK1
           go_wp2_with (go_at_call 64; refine (HK1.out _ HX.out.below).mono ?_; rintro e w4 ⟨hb4, p, rfl, hp⟩; have HP := Lib.hid hp; obtain ⟨kd, te, tm, pa, pc, pt⟩ := p; have HX4 := Lib.hid (HX.out.call hb4); have HT4 := Lib.hid (HTS.out.keep hb4); clear hp hb4; dsimp only [TyR.val]; refine pause ?_)
           clear c1 c2
           obtain ⟨hd, hsub, hkd⟩ := HP.out ty rfl
           have HD1 := Lib.hid hd
           have HX5 := Lib.hid (HX4.out.new #[.int .u8 kd, .int .i64 te, .int .i64 tm, .slice pa pt.length pc] 78)
           have HT5 := Lib.hid (HT4.out.keep (w' := (w4.alloc (.cells #[.int .u8 kd, .int .i64 te, .int .i64 tm, .slice pa pt.length pc] 78))) ((Below.refl _ _).alloc (Nat.le_refl _) _))
           have HSB : Hid (SubInts (w4.alloc (.cells #[.int .u8 kd, .int .i64 te, .int .i64 tm, .slice pa pt.length pc] 78)) w.heap.size pa pc pt) := Lib.hid ((hsub.more HX.out.below.size).keep ((Below.refl _ _).alloc (Nat.le_refl _) _))
           have hkd : kd ≤ 255 := hkd
           have HLB := Lib.hid HX5.out.below.size
           clear hd hsub
           obtain ⟨x0, x1⟩ := HX5.out.x.two
           have xz := HX5.out.x.free
           refine resume ?_
           go_wp2_with (at_builtin; refine wpList_appSub rfl (.tmp 39) (.tmp 41) rfl w.heap.size _ ts ⟨kd, te, tm, pa, pc, pt⟩ rfl HT5.out (by rw [World.size_alloc]; rfl) HSB.out hkd (by have := HTL.out; omega) HLB.out ?_; intro v8 w8 hown8 hg8; refine pause ?_)
           obtain ⟨ts2, hts2⟩ : ∃ ts2, ts ++ [(⟨kd, te, tm, pa, pc, pt⟩ : TyR)] = ts2 := ⟨_, rfl⟩
           rw [hts2] at hown8
           have HRS := Lib.hid hts2
           have HX8 := Lib.hid ((HX5.out.new #[.int .u8 kd, .int .i64 te, .int .i64 tm, .slice pa pt.length pc] 78).grownT (HT5.out.keep ((Below.refl _ _).alloc (Nat.le_refl _) _)) hg8)
           obtain ⟨A8, c8, hv8, _⟩ := hown8.tab
           subst hv8
           have HT8 := Lib.hid hown8
           clear hown8 hg8 hts2 x0 x1 xz
           have x0 : w8.cell? ⟨w.heap.size + 1, 0, none⟩ = some (.slice A ts.length c) := HX8.out.x.cells 0
           have xz := HX8.out.x.free
           refine resume ?_
           go_wp2_with fail
           have HX9 := Lib.hid (HX8.out.put0 (.slice A8 ts2.length c8))
           have HT9 := Lib.hid (HT8.out.spare (Spare.set HX8.out.x (j := 0) (.slice A8 ts2.length c8)) (by decide) (by decide))
           go_roundw
           case rel =>
            refine ⟨a + 1, ts2, A8, c8, HLT.out, by go_num, Lib.hid (by rw [← HRS.out, List.length_append]; have := HTL.out; show ts.length + 1 ≤ _; omega), HX9, HT9, Lib.hid ?_, Lib.hid ?_⟩
            · have h := HN.out
              rw [← HRS.out]
              unfold tbl at h ⊢
              rw [List.map_append]
              have e : List.map TyR.data [(⟨kd, te, tm, pa, pc, pt⟩ : TyR)] = [ty] := congrArg (fun z => [z]) HD1.out
              rw [e]
              exact h
            · intro t ht
              rw [← HRS.out] at ht
              rcases List.mem_append.1 ht with ht | ht
              · exact HPF.out t ht
              · obtain rfl := List.mem_singleton.1 ht
                have h := HPL.out
                rw [← HD1.out] at h
                exact h
           case measure => simp [intOf]; have := HLT.out; omega
   · obtain rfl : a = ls.length := by omega
     have HK2 : Hid (K = (funsR (tbl ts) (D.drop ls.length)).map fun fs => (⟨tbl ts, fs⟩ : PProg)) := Lib.hid (by
      rw [← HK.out]
      unfold programQ
      have h := HTT.out
      rw [← HDL.out, List.drop_length] at h ⊢
      rw [h.ends])
     clear HTT HK
     go_wp2_with fail
     go_meet
     exact ⟨ls.length, ts, A, c, Nat.le_refl _, rfl, HTL, HX, HTS, HPF, HK2⟩
end Go.Proofs.YtbffebcjimhapaaGreatDoor
