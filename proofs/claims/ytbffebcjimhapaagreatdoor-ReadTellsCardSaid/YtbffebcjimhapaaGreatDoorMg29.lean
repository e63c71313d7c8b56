/-
  A block of a program's text. And what stands on it: RdFun, RdProg, RdCatch.
-/
import Derived.Test.YtbffebcjimhapaaGreatDoorMg24
import Derived.Recover
namespace Go.Proofs.YtbffebcjimhapaaGreatDoor
set_option linter.unusedVariables false
set_option linter.unusedSimpArgs false
open Go.ChangeShapes Go.WideShapes Go.ChangeAt Go.RowKit
section
variable {g : Nat} {w : World} {l : LsR} {x : LnR} {tv fv : Value}
set_option maxRecDepth 100000 in
set_option maxHeartbeats 3200000 in
theorem rblock_any (h : Rdr w g l x tv fv) (hl : LOk l) (hT : TabW w) (reg : Int) (hr0 : 0 ≤ reg) (hr1 : reg ≤ 1000000000) :
    Calls Tryz.prog 103 #[.pointer (some ⟨g, 0, none⟩), .int .i64 reg] w (RdOutL w g tv fv (isBlk w.heap.size) (blockA l.data reg)) := by
 have HB0 := Lib.hid (Bx.new h 71 #[.slice none 0 0, .int .u8 0, .int .i64 0, .int .i64 0, .int .i64 0])
 have HBA := Lib.hid (HB0.out.on (w' := (w.alloc (.cells #[.slice none 0 0, .int .u8 0, .int .i64 0, .int .i64 0, .int .i64 0] 71)).alloc (.cells (endS.map Value.string).toArray 9)) ((Below.refl _ _).alloc (Nat.le_refl _) _))
 have HE0 := Lib.hid (Blk.new2 w (.cells #[.slice none 0 0, .int .u8 0, .int .i64 0, .int .i64 0, .int .i64 0] 71) 9 (endS.map Value.string).toArray)
 have hg0 := h.ne0 hT
 have HT := Lib.hid hT
 have HL := Lib.hid hl
 have hyes := need_yes
 have hno := need_no
 clear h hT hl
 go_enter Tryz.func103, Tryz.ntmps103
 go_wp2_with fail
 go_loopw [] (fun wr => ∃ (rows : List InR) (A : Option Addr) (c : Nat) (l' : LsR) (x' : LnR), Bx w wr g l' x' tv fv w.heap.size 71 #[.slice A rows.length c, .int .u8 0, .int .i64 0, .int .i64 0, .int .i64 0] ∧ OwnIns wr w.heap.size (.slice A rows.length c) rows ∧ Blk wr (w.heap.size + 1) 9 (endS.map Value.string).toArray ∧ BlockTo l.data reg (rows.map InR.data) l'.data ∧ LOk l' ∧ rows.length + l'.rows.length ≤ 20000) (fun wr => lenOf ((wr.cell? ⟨g, 0, none⟩).getD undef))
 case atStart => exact ⟨[], none, 0, l, x, HBA.out, OwnIns.nil _ _, HE0.out, BlockTo.start _ _, HL.out, by have := HL.out.len; simpa using this⟩
 case round =>
  obtain ⟨rows, A, c, l', x', hbx, hown, hes, hbt, hlo, hlen⟩ := hrel
  have HBX := Lib.hid hbx
  have HO := Lib.hid hown
  have HES := Lib.hid hes
  have HBT := Lib.hid hbt
  have HLO := Lib.hid hlo
  have HLN := Lib.hid hlen
  have HNX := Lib.hid (next_any hbx.rd)
  have hm0 : lenOf ((wr.cell? ⟨g, 0, none⟩).getD undef) = l'.rows.length := by rw [hbx.rd.blk.cells 0]; rfl
  have HM0 := Lib.hid hm0
  have HTW := Lib.hid (HT.out.tn hg0 hbx.tn)
  clear hbx hown hes hbt hlo hlen hm0
  cases hd : l'.rows with
  | nil =>
    rw [hd] at HNX
    have HI : Hid (blockA l.data reg = none) := Lib.hid (by
     have hb := HBT.out
     rw [show l'.data = [] by show l'.rows.map LnR.data = []; rw [hd]; rfl] at hb
     unfold blockA
     rw [hb.stop]
     rfl)
    clear hd
    go_wp2_with (first
     | (go_at_call 57; refine HNX.out.mono ?_; rintro e w1 ⟨rfl, rfl⟩)
     | (go_at_call 60; refine (hno _).mono ?_; rintro e w2 ⟨rfl, rfl⟩))
    exact ⟨rfl, HBX.out.tn, by rw [HI.out]⟩
  | cons r rest =>
    rw [hd] at HNX
    have HD := Lib.hid hd
    have hmem : r ∈ l'.rows := by rw [hd]; exact List.mem_cons_self ..
    obtain ⟨hr0', hfw⟩ := HLO.out.full r hmem
    have HFW := Lib.hid hfw
    have HFE := Lib.hid (HLO.out.few r hmem)
    have HDD : Hid (l'.data = r.data :: l'.rest.data) := Lib.hid (by show l'.rows.map LnR.data = r.data :: (l'.rows.drop 1).map LnR.data; rw [hd]; rfl)
    have HLR : Hid (l'.rest.rows.length + 1 = l'.rows.length) := Lib.hid (by show (l'.rows.drop 1).length + 1 = _; rw [hd]; rfl)
    clear hd hmem hfw
    cases hxs : r.xs with
    | nil => rw [hxs] at hr0'; exact absurd hr0' (Nat.lt_irrefl _)
    | cons s0 t0 =>
      have HXS := Lib.hid hxs
      have HHD : Hid (r.data.headD [] = toL s0) := Lib.hid (by show (r.xs.map toL).headD [] = _; rw [hxs]; rfl)
      clear hxs
      go_wp2_with (first
       | (go_at_call 57; refine HNX.out.mono ?_; rintro e w1 ⟨rfl, hr, ht⟩; have HB1 := Lib.hid (Bx.call HBX.out hr ht (by decide)); have hsp := ht.spare HBX.out.rd.blk; have HO1 := Lib.hid (OwnIns.spare HO.out hsp (by decide) (by decide)); have HES1 := Lib.hid (HES.out.spareOf hsp (by decide)); have HTW1 := Lib.hid (HTW.out.tn hg0 ht); clear hr ht hsp)
       | (go_at_call 60; refine (hyes _).mono ?_; rintro e w2 ⟨rfl, rfl⟩; refine pause ?_))
      obtain ⟨b, off, ha, hc⟩ := HB1.out.rd.words.first2 HXS.out
      have c1 : w2.cell? ⟨g, 1, none⟩ = some (.slice (some ⟨b, off, none⟩) r.xs.length r.c) := (HB1.out.rd.blk.cells 1).trans (by rw [ha]; rfl)
      have q1 : (0 : Int) < r.xs.length := by omega
      have HEND := Lib.hid (threeEnds_any (w := w2) (A := some ⟨w.heap.size + 1, 0, none⟩) ⟨by omega, by unfold maxLen; omega, fun h => by cases h⟩ (strs_new (xs := endS) HES1.out) s0)
      obtain ⟨b0, hb0⟩ : ∃ b0, isEndP (toL s0) = b0 := ⟨_, rfl⟩
      rw [hb0] at HEND
      have HB0' : Hid (isEndP (r.data.headD []) = b0) := Lib.hid (by rw [HHD.out]; exact hb0)
      clear ha hb0
      have k0 := HB1.out.blk.cells 0; have k1 := HB1.out.blk.cells 1; have k2 := HB1.out.blk.cells 2; have k3 := HB1.out.blk.cells 3; have k4 := HB1.out.blk.cells 4; have kz := HB1.out.blk.free
      refine resume ?_
      cases b0 with
      | true =>
        have HBE := Lib.hid ((show BlockTo l.data reg (rows.map InR.data) (r.data :: l'.rest.data) by rw [← HDD.out]; exact HBT.out).ends HB0'.out)
        have HRE := Lib.hid (rend_any HB1.out.rd)
        rcases endQ_some (W := r.data) with ⟨en, e1, e2⟩ | ⟨e1, e2⟩
        · have HI : Hid (blockA l.data reg = some (⟨rows.map InR.data, en⟩, l'.rest.data)) := Lib.hid (by unfold blockA; rw [HBE.out, e1]; rfl)
          rw [e2] at HRE
          clear e1 e2
          go_wp2_with (first
           | (go_at_call 137; refine HEND.out.mono ?_; rintro e w3 ⟨rfl, rfl⟩)
           | (go_at_call 138; refine HRE.out.mono ?_; rintro e w4 ⟨ht, v4, x4, rfl, hv, hx4, hr⟩; obtain ⟨rfl, hk4⟩ := hv; unfold PEnd.val; have HB4 := Lib.hid (Bx.call HB1.out hr ht (by decide)); have HO4 := Lib.hid (OwnIns.spare HO1.out (ht.spare HB1.out.rd.blk) (by decide) (by decide)); have HK4 := Lib.hid hk4; have HX4 := Lib.hid hx4; clear ht hr hx4 hk4; have m0 := HB4.out.blk.cells 0; have m1 := HB4.out.blk.cells 1; have m2 := HB4.out.blk.cells 2; have m3 := HB4.out.blk.cells 3; have m4 := HB4.out.blk.cells 4; have mz := HB4.out.blk.free; have HB5 := Lib.hid (Bx.end4 HB4.out (by decide) (by decide) (by decide) (.int .u8 en.kind) (.int .i64 en.a) (.int .i64 en.to) (.int .i64 en.els)); have n0 := HB5.out.blk.cells 0; have n1 := HB5.out.blk.cells 1; have n2 := HB5.out.blk.cells 2; have n3 := HB5.out.blk.cells 3; have n4 := HB5.out.blk.cells 4; have nz := HB5.out.blk.free; have hx0 : x4.xs.length = 0 := by { rw [← LnR.data_len, HX4.out]; rfl }; have c5 := (HB5.out.rd.blk.cells 1).trans (show _ = some (Value.slice x4.a 0 x4.c) by rw [← hx0]; rfl); clear hx0)
           | (go_at_call 60; refine (hyes _).mono ?_; rintro e w6 ⟨rfl, rfl⟩))
          have HB7 := Lib.hid (Bx.five HB5.out (by decide) (by decide) (by decide) (.slice A rows.length c) (.int .u8 en.kind) (.int .i64 en.a) (.int .i64 en.to) (.int .i64 en.els))
          have HO7 := Lib.hid (OwnIns.spare (OwnIns.spare HO4.out (spare_end4 HB4.out.blk (.int .u8 en.kind) (.int .i64 en.a) (.int .i64 en.to) (.int .i64 en.els)) (by decide) (by decide)) (spare_five HB5.out.blk (.slice A rows.length c) (.int .u8 en.kind) (.int .i64 en.a) (.int .i64 en.to) (.int .i64 en.els)) (by decide) (by decide))
          have q0 := HB7.out.blk.cells 0
          have q1 := HB7.out.blk.cells 1
          have q2 := HB7.out.blk.cells 2
          have q3 := HB7.out.blk.cells 3
          have q4 := HB7.out.blk.cells 4
          exact bodyPost_ret (v := BlR.val ⟨A, c, rows, en.kind, en.a, en.to, en.els⟩) (by simp [results, Tryz.results103, go_sem, BlR.val, q0, q1, q2, q3, q4]) rfl ⟨HB7.out.tn, by rw [HI.out]; exact ⟨_, l'.rest, x4, rfl, ⟨⟨A, c, rows, en.kind, en.a, en.to, en.els⟩, rfl, rfl, ⟨HK4.out, HO7.out⟩⟩, rfl, HLO.out.rest, HX4.out, HB7.out.rd⟩⟩
        · have HI : Hid (blockA l.data reg = none) := Lib.hid (by unfold blockA; rw [HBE.out, e1]; rfl)
          rcases e2 with e2 | ⟨en, a, t, e2⟩
          · rw [e2] at HRE
            clear e1 e2
            go_wp2_with (first
             | (go_at_call 137; refine HEND.out.mono ?_; rintro e w3 ⟨rfl, rfl⟩)
             | (go_at_call 138; refine HRE.out.mono ?_; rintro e w4 ⟨ht, rfl⟩; have HT4 := Lib.hid ht; clear ht))
            exact ⟨rfl, HB1.out.tn.trans HT4.out, by rw [HI.out]⟩
          · rw [e2] at HRE
            clear e1 e2
            go_wp2_with (first
             | (go_at_call 137; refine HEND.out.mono ?_; rintro e w3 ⟨rfl, rfl⟩)
             | (go_at_call 138; refine HRE.out.mono ?_; rintro e w4 ⟨ht, v4, x4, rfl, hv, hx4, hr⟩; obtain ⟨rfl, hk4⟩ := hv; unfold PEnd.val; have HB4 := Lib.hid (Bx.call HB1.out hr ht (by decide)); have HX4 := Lib.hid hx4; clear ht hr hx4 hk4; have m0 := HB4.out.blk.cells 0; have m1 := HB4.out.blk.cells 1; have m2 := HB4.out.blk.cells 2; have m3 := HB4.out.blk.cells 3; have m4 := HB4.out.blk.cells 4; have mz := HB4.out.blk.free; have HB5 := Lib.hid (Bx.end4 HB4.out (by decide) (by decide) (by decide) (.int .u8 en.kind) (.int .i64 en.a) (.int .i64 en.to) (.int .i64 en.els)); have hx0 : x4.xs.length = t.length + 1 := by { rw [← LnR.data_len, HX4.out]; rfl }; have c5 := (HB5.out.rd.blk.cells 1).trans (show _ = some (Value.slice x4.a (t.length + 1) x4.c) by rw [← hx0]; rfl); have qt : ((((t.length + 1 : Nat) : Int)) == 0) = false := by { simp; omega }; clear hx0)
             | (go_at_call 60; refine (hno _).mono ?_; rintro e w6 ⟨rfl, rfl⟩))
            exact ⟨rfl, HB5.out.tn, by rw [HI.out]⟩
      | false =>
        have HRI := Lib.hid (fun W (hb : Below w2.heap.size w2 W) => rins_any (HB1.out.rd.on hb) HFW.out (by rw [HXS.out]; exact List.cons_ne_nil _ _) HFE.out (HTW1.out.on hb) (reg + (rows.length : Int)))
        have hw64 : IntKind.i64.wrap (reg + (rows.length : Int)) = reg + (rows.length : Int) := IntWalk.i64_in _ (by have := HLN.out; omega)
        have HI0 : Hid (∀ (o : Option PIns), lineQ (insQ r.data (reg + (rows.length : Int))) = o → (o = none → blockA l.data reg = none) ∧ ∀ y, o = some y → BlockTo l.data reg (rows.map InR.data ++ [y]) l'.rest.data) := Lib.hid (fun o ho => by
         have hb := HBT.out
         rw [HDD.out] at hb
         have hm : (rows.length : Int) = ((rows.map InR.data).length : Int) := by rw [List.length_map]
         rw [hm] at ho
         refine ⟨fun h0 => ?_, fun y hy => ?_⟩
         · unfold blockA
           rw [hb.bad HB0'.out (by rw [ho, h0])]
           rfl
         · exact hb.step HB0'.out (by rw [ho, hy]))
        go_wp2_with (go_at_call 137; refine HEND.out.mono ?_; rintro e w3 ⟨rfl, rfl⟩)
        have HBd := Lib.hid (HB1.out.on ((Below.refl _ _).drew))
        have HOd := Lib.hid (HO1.out.keep ((Below.refl _ _).drew))
        have HESd := Lib.hid (HES1.out.beneath ((Below.refl _ _).drew))
        refine wp_region_T (fun w' => w'.cell? ⟨w.heap.size, 0, none⟩ = some (.slice A rows.length c)) 12 (by kernel_rfl) k0 (fun hHeld => ?_)
        refine wpAnyT_take (i := 0) (by kernel_rfl) (by decide) rfl (by kernel_rfl) (by kernel_rfl) (by kernel_rfl) (fun _ _ _ h => h) (Or.inl ⟨by rfl, by (intro w hSw; (try dsimp only at hSw); go_simp; (try with_reducible rfl))⟩) (by assumption) ?_; (try simp only [Act.put, List.setIfInBounds_toArray, List.set_cons_zero, List.set_cons_succ])
        refine wpAnyT_take (i := 1) (by kernel_rfl) (by decide) rfl (by kernel_rfl) (by kernel_rfl) (by kernel_rfl) (fun _ _ _ h => h) (Or.inl ⟨by rfl, by (intro w hSw; (try dsimp only at hSw); go_simp; (try with_reducible rfl))⟩) (by assumption) ?_; (try simp only [Act.put, List.setIfInBounds_toArray, List.set_cons_zero, List.set_cons_succ])
        refine wpAnyT_take (i := 2) (by kernel_rfl) (by decide) rfl (by kernel_rfl) (by kernel_rfl) (by kernel_rfl) (fun _ _ _ h => h) (Or.inl ⟨by rfl, by (intro w hSw; (try dsimp only at hSw); go_simp; (try with_reducible rfl))⟩) (by assumption) ?_; (try simp only [Act.put, List.setIfInBounds_toArray, List.set_cons_zero, List.set_cons_succ])
        refine wpAnyT_take (i := 3) (by kernel_rfl) (by decide) rfl (by kernel_rfl) (by kernel_rfl) (by kernel_rfl) (fun _ _ _ h => h) (Or.inl ⟨by rfl, by (intro w hSw; (try dsimp only at hSw); go_simp; (try with_reducible rfl))⟩) (by assumption) ?_; (try simp only [Act.put, List.setIfInBounds_toArray, List.set_cons_zero, List.set_cons_succ])
        refine wpAnyT_take (i := 4) (by kernel_rfl) (by decide) rfl (by kernel_rfl) (by kernel_rfl) (by kernel_rfl) (fun _ _ _ h => h) (Or.inl ⟨by rfl, by (intro w hSw; (try dsimp only at hSw); go_simp; (try with_reducible rfl))⟩) (by assumption) ?_; (try simp only [Act.put, List.setIfInBounds_toArray, List.set_cons_zero, List.set_cons_succ])
        refine wpAnyT_take (i := 5) (by kernel_rfl) (by decide) rfl (by kernel_rfl) (by kernel_rfl) (by kernel_rfl) (fun _ _ _ h => h) (Or.inl ⟨by rfl, by (intro w hSw; (try dsimp only at hSw); go_simp; (try with_reducible rfl))⟩) (by assumption) ?_; (try simp only [Act.put, List.setIfInBounds_toArray, List.set_cons_zero, List.set_cons_succ])
        refine wpAnyT_take (i := 6) (by kernel_rfl) (by decide) rfl (by kernel_rfl) (by kernel_rfl) (by kernel_rfl) (fun _ _ _ h => h) (Or.inl ⟨by rfl, by (intro w hSw; (try dsimp only at hSw); go_simp; (try with_reducible rfl))⟩) (by assumption) ?_; (try simp only [Act.put, List.setIfInBounds_toArray, List.set_cons_zero, List.set_cons_succ])
        refine wpAnyT_take (i := 7) (by kernel_rfl) (by decide) rfl (by kernel_rfl) (by kernel_rfl) (by kernel_rfl) (fun _ _ _ h => h) (Or.inl ⟨by rfl, by (intro w hSw; (try dsimp only at hSw); go_simp; (try with_reducible rfl))⟩) (by assumption) ?_; (try simp only [Act.put, List.setIfInBounds_toArray, List.set_cons_zero, List.set_cons_succ])
        refine wpAnyT_one (i := 8) (by kernel_rfl) rfl (fun K hK => ?_)
        go_simp
        refine (HRI.out _ ((Below.refl _ _).drew)).mono ?_
        rintro e w6 ⟨ht, hm⟩
        cases hq : insQ r.data (reg + (rows.length : Int)) with
        | none =>
          rw [hq] at hm
          have hm : e = giveUp := hm
          subst hm
          exact ⟨rfl, HBd.out.tn.trans ht, by rw [(HI0.out none (by rw [hq]; rfl)).1 rfl]⟩
        | some q =>
          obtain ⟨y, W⟩ := q
          rw [hq] at hm
          obtain ⟨v6, x6, rfl, ⟨ri, rfl, hri, hro⟩, hx6, hr6⟩ := hm
          have HB6 := Lib.hid (Bx.call HBd.out hr6 ht (by decide))
          have hsp := ht.spare HBd.out.rd.blk
          have HO6 := Lib.hid (OwnIns.spare HOd.out hsp (by decide) (by decide))
          have HES6 := Lib.hid (HESd.out.spareOf hsp (by decide))
          have HRO := Lib.hid (hro.more HBd.out.tn.size)
          have HRI2 := Lib.hid hri
          have HX6 := Lib.hid hx6
          have HQ := Lib.hid hq
          have i0 : w6.cell? ⟨w.heap.size, 0, none⟩ = some (.slice A rows.length c) := HB6.out.blk.cells 0
          clear ht hsp hr6 hro hri hx6 hq
          obtain ⟨op, ty, ra, rb, rn, aa, ac, args, fa, fc, froms⟩ := ri
          unfold InR.val
          dsimp only at *
          refine hK.out _ _ (fun _ => i0) (fun hH => ?_); clear hHeld hK K; have hHeld := hH (by decide); clear hH
          refine wpAnyT_one (i := 9) (by kernel_rfl) rfl (fun K hK => ?_)
          go_simp
          have HB7 := Lib.hid (HB6.out.on (w' := w6.alloc (.cells #[.int .u8 op, .int .i64 ty, .int .i64 ra, .int .i64 rb, .int .i64 rn, .slice aa args.length ac, .slice fa froms.length fc] 74)) ((Below.refl _ _).alloc (Nat.le_refl _) _))
          have HO7 := Lib.hid (HO6.out.keep (w' := w6.alloc (.cells #[.int .u8 op, .int .i64 ty, .int .i64 ra, .int .i64 rb, .int .i64 rn, .slice aa args.length ac, .slice fa froms.length fc] 74)) ((Below.refl _ _).alloc (Nat.le_refl _) _))
          have HES7 := Lib.hid (HES6.out.beneath (w' := w6.alloc (.cells #[.int .u8 op, .int .i64 ty, .int .i64 ra, .int .i64 rb, .int .i64 rn, .slice aa args.length ac, .slice fa froms.length fc] 74)) ((Below.refl _ _).alloc (Nat.le_refl _) _))
          have i0' : (w6.alloc (.cells #[.int .u8 op, .int .i64 ty, .int .i64 ra, .int .i64 rb, .int .i64 rn, .slice aa args.length ac, .slice fa froms.length fc] 74)).cell? ⟨w.heap.size, 0, none⟩ = some (.slice A rows.length c) := HB7.out.blk.cells 0
          refine hK.out _ _ (fun _ => i0') (fun hH => ?_); clear hHeld hK K; have hHeld := hH (by decide); clear hH
          refine wpAnyT_one (i := 10) (by kernel_rfl) rfl (fun K hK => ?_)
          refine step_appI rfl (.tmp 34) (.tmp 42) rfl w.heap.size _ rows ⟨op, ty, ra, rb, rn, aa, ac, args, fa, fc, froms⟩ (by rfl) HO7.out w6.heap.size (by rfl) (Blk.new w6 _ _) (HRO.out.keep ((Below.refl _ _).alloc (Nat.le_refl _) _)) HB7.out.tn.size (by have := HLN.out; omega) ?_
          rintro v8 w8 hoi8 hg8
          obtain ⟨rows2, hrows2⟩ : ∃ rows2, rows ++ [(⟨op, ty, ra, rb, rn, aa, ac, args, fa, fc, froms⟩ : InR)] = rows2 := ⟨_, rfl⟩
          rw [hrows2] at hoi8
          have HRS := Lib.hid hrows2
          have HB8 := Lib.hid (HB7.out.grown HO7.out.row hg8 (Nat.le_refl _) (by decide) (by decide) (by decide) (by decide))
          have HES8 := Lib.hid (HES7.out.spareOf (Spare.grown HO7.out.row hg8) (by decide))
          obtain ⟨A8, c8, rfl, _⟩ := hoi8.form
          have HO8 := Lib.hid hoi8
          have i8 : w8.cell? ⟨w.heap.size, 0, none⟩ = some (.slice A rows.length c) := HB8.out.blk.cells 0
          clear hoi8 hg8 hrows2
          try dsimp only
          refine hK.out _ _ (fun _ => i8) (fun hH => ?_); clear hHeld hK K; have hHeld := hH (by decide); clear hH
          refine wpAnyT_one (i := 11) (by kernel_rfl) rfl (fun K hK => ?_)
          go_simp
          refine hK.out _ _ (fun _ => i8) (fun hH => ?_); clear hHeld hK K; have hHeld := hH (by decide); clear hH
          refine wpAnyT_one (i := 12) (by kernel_rfl) rfl (fun K hK => ?_)
          have j8 := HB8.out.blk.free 0
          go_simp
          refine hK.out _ _ (fun e => absurd rfl e) (fun hH => ?_); refine wpAnyT_done (by kernel_rfl) ?_ _; clear hHeld hK K hH
          have HB9 := Lib.hid (HB8.out.put (by decide) (by decide) (by decide) 0 (.slice A8 rows2.length c8))
          have hs9 : Spare 71 w8 (w8.setCell ⟨w.heap.size, 0, none⟩ (.slice A8 rows2.length c8)) := Spare.set HB8.out.blk _
          have HO9 := Lib.hid (HO8.out.spare hs9 (by decide) (by decide))
          have HES9 := Lib.hid (HES8.out.spareOf hs9 (by decide))
          have HM9 : Hid (lenOf (((w8.setCell ⟨w.heap.size, 0, none⟩ (.slice A8 rows2.length c8)).cell? ⟨g, 0, none⟩).getD undef) = l'.rest.rows.length) := Lib.hid (by rw [HB9.out.rd.blk.cells 0]; rfl)
          clear hs9
          cases W with
          | cons a t =>
            have hxl : x6.xs.length = t.length + 1 := by rw [← LnR.data_len, HX6.out]; rfl
            have c9 := (HB9.out.rd.blk.cells 1).trans (show _ = some (Value.slice x6.a (t.length + 1) x6.c) by rw [← hxl]; rfl)
            have qt : ((((t.length + 1 : Nat) : Int)) == 0) = false := by simp; omega
            have HI : Hid (blockA l.data reg = none) := Lib.hid ((HI0.out none (by rw [HQ.out]; rfl)).1 rfl)
            clear hxl
            go_wp2_with (go_at_call 60; refine (hno _).mono ?_; rintro e w5 ⟨rfl, rfl⟩)
            exact ⟨rfl, HB9.out.tn, by rw [HI.out]⟩
          | nil =>
            have hxl : x6.xs.length = 0 := by rw [← LnR.data_len, HX6.out]; rfl
            have c9 := (HB9.out.rd.blk.cells 1).trans (show _ = some (Value.slice x6.a 0 x6.c) by rw [← hxl]; rfl)
            have HI := Lib.hid ((HI0.out (some y) (by rw [HQ.out]; rfl)).2 y rfl)
            clear hxl
            go_wp2_with (go_at_call 60; refine (hyes _).mono ?_; rintro e w5 ⟨rfl, rfl⟩)
            go_roundw
            case rel => exact ⟨rows2, A8, c8, l'.rest, x6, HB9.out, HO9.out, HES9.out, by rw [← HRS.out, List.map_append, show List.map InR.data [(⟨op, ty, ra, rb, rn, aa, ac, args, fa, fc, froms⟩ : InR)] = [y] from congrArg (fun z => [z]) HRI2.out]; exact HI.out, HLO.out.rest, by rw [← HRS.out, List.length_append]; have h1 := HLN.out; have h3 := HLR.out; simp only [List.length_cons, List.length_nil]; omega⟩
            case measure => rw [HM9.out, HM0.out]; have h3 := HLR.out; omega
end
def isFun (lo : Nat) (t : PFun) (v : Value) (w : World) : Prop := ∃ r : FuR, v = r.val ∧ r.data = t ∧ r.Own w lo
theorem numP_small {l : Bs} {n : Int} (h : smallP l = some n) : 0 ≤ n ∧ n ≤ 999 := by
 unfold smallP at h
 cases hm : numP l with
 | none => rw [hm] at h; cases h
 | some m =>
   rw [hm] at h
   dsimp only at h
   split at h
   · rename_i hc
     injection h with h
     subst h
     exact hc
   · cases h
theorem markP_num {l : Bs} {c : UInt8} {n : Int} (h : markP l c = some n) : 0 ≤ n ∧ n ≤ 999 := by
 cases l with
 | nil => cases h
 | cons d r =>
   have h : (if d = c then smallP r else none) = some n := h
   by_cases hc : d = c
   · rw [if_pos hc] at h
     exact numP_small h
   · rw [if_neg hc] at h
     cases h
theorem markQ_num {c : UInt8} {W W' : List Bs} {n : Int} (h : markQ c W = some (n, W')) : 0 ≤ n ∧ n ≤ 999 := by
 cases W with
 | nil => cases h
 | cons a r =>
   have h : (markP a c).map (fun n => (n, r)) = some (n, W') := h
   cases hm : markP a c with
   | none => rw [hm] at h; cases h
   | some k =>
     rw [hm] at h
     have e : k = n := congrArg Prod.fst (Option.some.inj h)
     subst e
     exact markP_num hm
theorem block_word {l : LsR} : (((l.rows.headD default).xs.headD ⟨#[]⟩).toList == [98, 108, 111, 99, 107]) = isBlockP l.data := by
 obtain ⟨A, c, rows⟩ := l
 cases rows with
 | nil =>
   show ((⟨#[]⟩ : ByteArray).toList == _) = false
   rw [ByteArray.toList_eq]
   rfl
 | cons r rest =>
   obtain ⟨A2, c2, xs⟩ := r
   cases xs with
   | nil =>
     show ((⟨#[]⟩ : ByteArray).toList == _) = (([] : Bs) == bBlock)
     rw [ByteArray.toList_eq]
     rfl
   | cons s t =>
     show (s.toList == _) = (toL s == bBlock)
     rw [ByteArray.toList_eq]
     rfl
theorem isBlock_cons {l : LsR} (h : isBlockP l.data = true) : ∃ r rest, l.rows = r :: rest := by
 obtain ⟨A, c, rows⟩ := l
 cases rows with
 | nil => cases h
 | cons r rest => exact ⟨r, rest, rfl⟩
theorem LsR.rest_data {l : LsR} {r : LnR} {rest : List LnR} (h : l.rows = r :: rest) : l.data = r.data :: l.rest.data ∧ l.rest.rows.length + 1 = l.rows.length := by
 constructor
 · show l.rows.map LnR.data = r.data :: (l.rows.drop 1).map LnR.data
   rw [h]; rfl
 · show (l.rows.drop 1).length + 1 = _
   rw [h]; rfl
section
variable {g B : Nat} {w0 w w' : World} {l : LsR} {x : LnR} {tv fv : Value} {t : TypeId} {cs : Array Value}
theorem Bx.more (h : Bx w0 w g l x tv fv B t cs) (t' : TypeId) (cs' : Array Value) : Bx w0 (w.alloc (.cells cs' t')) g l x tv fv w.heap.size t' cs' := ⟨Blk.new w t' cs', h.rd.on ((Below.refl _ _).alloc (Nat.le_refl _) _), h.tn.on ((Below.refl _ _).alloc (Nat.le_refl _) _), h.tn.size⟩
theorem Bx.grownB (h : Bx w0 w g l x tv fv B t cs) {lo : Nat} {v : Value} {rows : List BlR} (ho : OwnBls w lo v rows) (hg : w.grownBy w' v.ownBlock) (hlo : w0.heap.size ≤ lo) (h0 : t ≠ 71) : Bx w0 w' g l x tv fv B t cs := by
 have hs := Spare.grown ho.row hg
 exact ⟨hs.block _ _ _ _ h.blk h0, h.rd.spare hs (by decide) (by decide) (by decide), h.tn.grown hg (fun k hk => Nat.le_trans hlo (own_base ho.row k hk)), h.lo⟩
set_option maxRecDepth 100000 in
set_option maxHeartbeats 3200000 in
theorem rfunction_any (h : Rdr w g l x tv fv) (hl : LOk l) (hT : TabW w) {lo : Nat} {ta : Option Addr} {tc : Nat} {types : List TyR} (htv : tv = .slice ta types.length tc) (hty : OwnTys w lo (.slice ta types.length tc) types) (hfew : ∀ t ∈ types, t.parts.length ≤ 20000) :
    Calls Tryz.prog 61 #[.pointer (some ⟨g, 0, none⟩)] w (RdOutL w g tv fv (isFun w.heap.size) (functionQ (tbl types) x.data l.data)) := by
 subst htv
 have HBR := Lib.hid (Bx.new h 64 #[.int .i64 0, .slice none 0 0])
 have HM := Lib.hid (mark_any HBR.out.rd 116)
 rw [show ((116 : UInt8).toNat : Int) = 116 from rfl] at HM
 have hg0 := h.ne0 hT
 have HT := Lib.hid hT
 have HL := Lib.hid hl
 have HTY := Lib.hid (hty.keep (w' := w.alloc (.cells #[.int .i64 0, .slice none 0 0] 64)) ((Below.refl _ _).alloc (Nat.le_refl _) _))
 have HFW := Lib.hid hfew
 have hyes := need_yes
 have hno := need_no
 clear h hT hl hty hfew
 cases hq : markQ 116 x.data with
 | none =>
   have HI : Hid (functionQ (tbl types) x.data l.data = none) := Lib.hid (by unfold functionQ; rw [hq]; rfl)
   rw [hq] at HM
   clear hq
   go_enter Tryz.func61, Tryz.ntmps61
   go_wp2_with (go_at_call 100; refine HM.out.mono ?_; rintro e w2 ⟨ht, rfl⟩; have HT2 := Lib.hid ht; clear ht)
   exact ⟨rfl, HBR.out.tn.trans HT2.out, by rw [HI.out]⟩
 | some q =>
   obtain ⟨n, W⟩ := q
   obtain ⟨hn0, hn1⟩ := markQ_num hq
   obtain ⟨k, rfl⟩ : ∃ k : Nat, n = (k : Int) := ⟨n.toNat, by omega⟩
   rw [hq] at HM
   cases W with
   | cons a t =>
     have HI : Hid (functionQ (tbl types) x.data l.data = none) := Lib.hid (by unfold functionQ; rw [hq]; rfl)
     clear hq
     go_enter Tryz.func61, Tryz.ntmps61
     go_wp2_with (first
      | (go_at_call 100; refine HM.out.mono ?_; rintro e w1 ⟨ht, v2, x2, rfl, hv, hx2, hr⟩; have hv : v2 = .int .i64 (k : Int) := hv; subst hv; have HB1 := Lib.hid ((Bx.call HBR.out hr ht (by decide)).more 64 #[.int .i64 (k : Int), .slice none 0 0]); have hxl : x2.xs.length = t.length + 1 := by { rw [← LnR.data_len, hx2]; rfl }; have c1 := (HB1.out.rd.blk.cells 1).trans (show _ = some (Value.slice x2.a (t.length + 1) x2.c) by rw [← hxl]; rfl); have qt : ((((t.length + 1 : Nat) : Int)) == 0) = false := by { simp; omega }; clear ht hx2 hr hxl)
      | (go_at_call 60; refine (hno _).mono ?_; rintro e w3 ⟨rfl, rfl⟩))
     exact ⟨rfl, HB1.out.tn, by rw [HI.out]⟩
   | nil =>
     obtain ⟨r0, hr0⟩ : ∃ r0, regOf (tbl types) (k : Int) = r0 := ⟨_, rfl⟩
     have HI : Hid (functionQ (tbl types) x.data l.data = (blocksR l.data r0).map fun z => (⟨(k : Int), z.1⟩, z.2)) := Lib.hid (by unfold functionQ; rw [hq, ← hr0]; rfl)
     have HR0 : Hid (0 ≤ r0 ∧ r0 ≤ 20000) := Lib.hid (by
      rw [← hr0]
      unfold regOf
      split
      · rename_i hlt
        rw [tbl_len] at hlt
        have hk : (k : Int).toNat < types.length := by omega
        have := HFW.out _ (mem_getD (d := default) hk)
        unfold tbl
        rw [map_getD TyR.data types hk]
        show (0 : Int) ≤ ((types.getD (k : Int).toNat default).parts.length : Int) ∧ _
        exact ⟨by omega, by show ((types.getD (k : Int).toNat default).parts.length : Int) ≤ 20000; omega⟩
      · omega)
     clear hq
     go_enter Tryz.func61, Tryz.ntmps61
     go_upto_if 27 with (first
      | (go_at_call 100; refine HM.out.mono ?_; rintro e w1 ⟨ht, v2, x2, rfl, hv, hx2, hr⟩; have hv : v2 = .int .i64 (k : Int) := hv; subst hv; have HB0 := Lib.hid (Bx.call HBR.out hr ht (by decide)); have HTY1 := Lib.hid (HTY.out.spare (ht.spare HBR.out.rd.blk) (by decide) (by decide)); have HX2 := Lib.hid hx2; have HB1 := Lib.hid (HB0.out.more 64 #[.int .i64 (k : Int), .slice none 0 0]); have HTY2 := Lib.hid (HTY1.out.keep (w' := w1.alloc (.cells #[.int .i64 (k : Int), .slice none 0 0] 64)) ((Below.refl _ _).alloc (Nat.le_refl _) _)); have HRB := Lib.hid (HB0.out.blk.alloc (.cells #[.int .i64 (k : Int), .slice none 0 0] 64)); have hxl : x2.xs.length = 0 := by { rw [← LnR.data_len, hx2]; rfl }; have c1 := (HB1.out.rd.blk.cells 1).trans (show _ = some (Value.slice x2.a 0 x2.c) by rw [← hxl]; rfl); have c2 := HB1.out.rd.blk.cells 2; have f0 := HB1.out.blk.cells 0; have f1 := HB1.out.blk.cells 1; clear ht hx2 hr hxl)
      | (go_at_call 60; refine (hyes _).mono ?_; rintro e w3 ⟨rfl, rfl⟩))
     go_quiet (fail)
     obtain ⟨nd, hnd⟩ : ∃ nd, nd = nq := ⟨_, rfl⟩
     subst hnd
     have HB2 := Lib.hid (HB1.out.on (w' := (w1.alloc (.cells #[.int .i64 (k : Int), .slice none 0 0] 64)).drewN nd) (belowDrewN (Below.refl _ _) nd))
     have HRB2 := Lib.hid (HRB.out.drewN nd)
     have HTY3 := Lib.hid (HTY2.out.keep (w' := (w1.alloc (.cells #[.int .i64 (k : Int), .slice none 0 0] 64)).drewN nd) (belowDrewN (Below.refl _ _) nd))
     go_upto_if 27 with fail
     go_cut [4] (fun s4 wx => s4 = .int .i64 r0 ∧ Hid (Bx w wx g l x2 (.slice ta types.length tc) fv w1.heap.size 64 #[.int .i64 (k : Int), .slice none 0 0]) ∧ Hid (Blk wx w.heap.size 64 #[.int .i64 0, .slice none 0 0]) ∧ Hid (OwnTys wx lo (.slice ta types.length tc) types))
     case first =>
      by_cases hk : k < types.length
      · obtain ⟨A', c', e', hhdr, htyps⟩ := HTY2.out.form
        injection e' with e1 _ e3
        subst e1 e3
        obtain ⟨⟨b, off, rfl, hb, d0, d1, d2, d3⟩⟩ := htyps.elem hk
        have hr0' : r0 = ((types.getD k default).parts.length : Int) := by
         rw [← hr0]
         unfold regOf
         rw [tbl_len, if_pos (by omega)]
         unfold tbl
         rw [show (k : Int).toNat = k from rfl, map_getD TyR.data types hk]
         rfl
        generalize types.getD k default = tyk at *
        subst hr0'
        have hk0 : (0 : Int) ≤ (k : Int) := Int.natCast_nonneg _
        have hk1 : (k : Int) < (types.length : Int) := by omega
        go_wp2_with fail
        go_quiet (fail)
        go_wp2_with fail
        go_meet
        exact ⟨rfl, Lib.hid (HB2.out.on (belowDrewN (Below.refl _ _) nq)), Lib.hid (HRB2.out.drewN nq), Lib.hid (HTY3.out.keep (belowDrewN (Below.refl _ _) nq))⟩
      · have hr0' : r0 = 0 := by
         rw [← hr0]
         unfold regOf
         rw [tbl_len, if_neg (by omega)]
        subst hr0'
        go_wp2_with fail
        go_meet
        exact ⟨rfl, HB2, HRB2, HTY3⟩
     case rest =>
      obtain ⟨rfl, HBc, HRc, HTc⟩ := hcut
      obtain ⟨gF, hgF⟩ : ∃ gF, w1.heap.size = gF := ⟨_, rfl⟩
      have HGF : Hid (w.heap.size < gF) := Lib.hid (by rw [← hgF]; exact HB0.out.blk.lt)
      have HX2L : Hid (x2.data = []) := HX2
      rw [hgF] at HBc
      clear HB2 HRB2 HTY3 HB1 HTY2 HRB HTY1 HTY HBR c1 c2 f0 f1 HM hr0 HB0
      rw [hgF]
      clear hgF
      go_wp2_with fail
      go_loopw [4] (fun v wr => ∃ (bs : List BlR) (A : Option Addr) (c : Nat) (l' : LsR) (x' : LnR) (r : Int), v = .int .i64 r ∧ Bx w wr g l' x' (.slice ta types.length tc) fv gF 64 #[.int .i64 (k : Int), .slice A bs.length c] ∧ OwnBls wr w.heap.size (.slice A bs.length c) bs ∧ Blk wr w.heap.size 64 #[.int .i64 0, .slice none 0 0] ∧ BlocksTo l.data r0 (bs.map BlR.data) l'.data r ∧ LOk l' ∧ x'.data = [] ∧ (0 ≤ r ∧ r + l'.rows.length ≤ 40000) ∧ bs.length + l'.rows.length ≤ 20000) (fun _ wr => lenOf ((wr.cell? ⟨g, 0, none⟩).getD undef))
      case atStart => exact ⟨[], none, 0, l, x2, r0, rfl, HBc.out, OwnBls.nil _ _, HRc.out, BlocksTo.start _ _, HL.out, HX2L.out, ⟨HR0.out.1, by have := HR0.out.2; have := HL.out.len; omega⟩, by have := HL.out.len; simpa using this⟩
      case round =>
       obtain ⟨bs, A, c, l', x', r, rfl, hbx, hown, hrb, hto, hlo, hxd, ⟨hr1, hr2⟩, hlen⟩ := hrel
       have HBX := Lib.hid hbx
       have HO := Lib.hid hown
       have HRB := Lib.hid hrb
       have HTO := Lib.hid hto
       have HLO := Lib.hid hlo
       have HXD := Lib.hid hxd
       have HLN := Lib.hid hlen
       have HFI := Lib.hid (first_any hbx.rd hlo.full rfl)
       have HM0 : Hid (lenOf ((wr.cell? ⟨g, 0, none⟩).getD undef) = l'.rows.length) := Lib.hid (by rw [hbx.rd.blk.cells 0]; rfl)
       have HTW := Lib.hid (HT.out.tn hg0 hbx.tn)
       have tw := block_word (l := l')
       obtain ⟨s, hs⟩ : ∃ s, (l'.rows.headD default).xs.headD ⟨#[]⟩ = s := ⟨_, rfl⟩
       rw [hs] at HFI tw
       obtain ⟨b, hb⟩ : ∃ b, isBlockP l'.data = b := ⟨_, rfl⟩
       rw [hb] at tw
       have HBT := Lib.hid hb
       clear hbx hown hrb hto hlo hxd hlen hs hb
       cases b with
       | false =>
         have HI2 : Hid (functionQ (tbl types) x.data l.data = some (⟨(k : Int), bs.map BlR.data⟩, l'.data)) := Lib.hid (by rw [HI.out, HTO.out.done HBT.out]; rfl)
         have f0 := HBX.out.blk.cells 0
         have f1 := HBX.out.blk.cells 1
         have f2 := HRB.out.free 0
         have f3 := HRB.out.free 1
         have f4 := HRB.out.cells 0
         have f5 := HRB.out.cells 1
         go_wp2_with (go_at_call 56; refine HFI.out.mono ?_; rintro e w3 ⟨rfl, rfl⟩)
         have hk9 := (HRB.out.put 0 (.int .i64 (k : Int))).put 1 (.slice A bs.length c)
         have q0 := hk9.cells 0
         have q1 := hk9.cells 1
         have hne : gF ≠ w.heap.size := by have := HGF.out; omega
         have hsp : Spare 64 w3 ((w3.setCell ⟨w.heap.size, 0, none⟩ (.int .i64 (k : Int))).setCell ⟨w.heap.size, 1, none⟩ (.slice A bs.length c)) := (Spare.set HRB.out _).trans (Spare.set (HRB.out.put 0 _) _)
         have htn : Tn g w ((w3.setCell ⟨w.heap.size, 0, none⟩ (.int .i64 (k : Int))).setCell ⟨w.heap.size, 1, none⟩ (.slice A bs.length c)) := (HBX.out.tn.far (Nat.le_refl _) 0 _).far (Nat.le_refl _) 1 _
         exact bodyPost_ret (v := FuR.val ⟨(k : Int), A, c, bs⟩) (by simp [results, Tryz.results61, go_sem, FuR.val, q0, q1]) rfl ⟨htn, by rw [HI2.out]; exact ⟨_, l', x', rfl, ⟨⟨(k : Int), A, c, bs⟩, rfl, rfl, HO.out.spare hsp (by decide) (by decide) (by decide)⟩, rfl, HLO.out, HXD.out, HBX.out.rd.spare hsp (by decide) (by decide) (by decide)⟩⟩
       | true =>
         obtain ⟨r1, rest, hd⟩ := isBlock_cons HBT.out
         have HNX := Lib.hid (next_any HBX.out.rd)
         rw [hd] at HNX
         obtain ⟨hdd, hlr⟩ := LsR.rest_data hd
         have HDD := Lib.hid hdd
         have HLR := Lib.hid hlr
         have HDL : Hid (r1.data.length = r1.xs.length) := Lib.hid (List.length_map ..)
         clear hd hdd hlr
         by_cases h1 : r1.xs.length = 1
         · obtain ⟨o, ho⟩ : ∃ o, blockQ l'.rest.data r = o := ⟨_, rfl⟩
           have HH1 : Hid ((l'.data.headD []).length = 1) := Lib.hid (by rw [HDD.out]; show r1.data.length = 1; rw [HDL.out]; exact h1)
           have HOq : Hid (blockQ (l'.data.drop 1) r = o) := Lib.hid (by rw [HDD.out]; exact ho)
           have HOr := Lib.hid ho
           have hr3 : r ≤ 1000000000 := by omega
           have HZ1 := Lib.hid h1
           clear ho h1
           go_wp2_with (first
            | (go_at_call 56; refine HFI.out.mono ?_; rintro e w3 ⟨rfl, rfl⟩)
            | (go_at_call 57; refine HNX.out.mono ?_; rintro e w4 ⟨rfl, hr, ht⟩; have HB4 := Lib.hid (Bx.call HBX.out hr ht (by decide)); have hsp := ht.spare HBX.out.rd.blk; have HO4 := Lib.hid (OwnBls.spare HO.out hsp (by decide) (by decide) (by decide)); have HRB4 := Lib.hid (HRB.out.spareOf hsp (by decide)); have HTW4 := Lib.hid (HTW.out.tn hg0 ht); have c4 : w4.cell? ⟨g, 1, none⟩ = some (.slice r1.a r1.xs.length r1.c) := HB4.out.rd.blk.cells 1; rw [HZ1.out] at c4; clear hr ht hsp)
            | (go_at_call 60; refine (hyes _).mono ?_; rintro e w5 ⟨rfl, rfl⟩; refine pause ?_))
           have HBL := Lib.hid (rblock_any HB4.out.rd HLO.out.rest HTW4.out r hr1 hr3)
           have hbA : blockA l'.rest.data r = o.map fun q => (⟨q.1, q.2.1⟩, q.2.2) := by unfold blockA; rw [HOr.out]
           rw [hbA] at HBL
           clear hbA
           refine resume ?_
           cases o with
           | none =>
             have HI2 : Hid (functionQ (tbl types) x.data l.data = none) := Lib.hid (by rw [HI.out, HTO.out.bad2 HBT.out HOq.out]; rfl)
             go_wp2_with (go_at_call 103; refine HBL.out.mono ?_; rintro e w6 ⟨ht, rfl⟩; have HT6 := Lib.hid ht; clear ht)
             exact ⟨rfl, HB4.out.tn.trans HT6.out, by rw [HI2.out]⟩
           | some q =>
             obtain ⟨xs, en, L2⟩ := q
             have HTO2 := Lib.hid (HTO.out.step HBT.out HH1.out HOq.out)
             go_wp2_with (first
              | (go_at_call 103; refine HBL.out.mono ?_; rintro e w6 ⟨ht, v6, l6, x6, rfl, ⟨rb, rfl, hrb, hro⟩, hl6, hlo6, hx6, hr6⟩; have HB6 := Lib.hid (Bx.call HB4.out hr6 ht (by decide)); have hsp := ht.spare HB4.out.rd.blk; have HO6 := Lib.hid (OwnBls.spare HO4.out hsp (by decide) (by decide) (by decide)); have HRB6 := Lib.hid (HRB4.out.spareOf hsp (by decide)); have HRO := Lib.hid (OwnIns.more hro.ins HB4.out.tn.size); have HRK := Lib.hid hro.kind; have HRD := Lib.hid hrb; have HL6 := Lib.hid hl6; have HLO6 := Lib.hid hlo6; have HX6 := Lib.hid hx6; clear ht hsp hr6 hro hrb hl6 hlo6 hx6; obtain ⟨ia, ic, ins, kd, ea, et, el⟩ := rb; unfold BlR.val; dsimp only at *; have HB7 := Lib.hid (HB6.out.on (w' := w6.alloc (.cells #[.slice ia ins.length ic, .int .u8 kd, .int .i64 ea, .int .i64 et, .int .i64 el] 71)) ((Below.refl _ _).alloc (Nat.le_refl _) _)); have f1 := HB7.out.blk.cells 1; refine pause ?_))
             have HHX : Hid (ins.map InR.data = xs ∧ (⟨kd, ea, et, el⟩ : PEnd) = en) := Lib.hid (by
              have h : (⟨ins.map InR.data, ⟨kd, ea, et, el⟩⟩ : PBlk) = ⟨xs, en⟩ := HRD.out
              injection h with h1 h2
              exact ⟨h1, h2⟩)
             have HLE : Hid (ins.length + 1 + l6.rows.length = l'.rest.rows.length) := Lib.hid (by
              have h1 := blockQ_len _ _ _ HOr.out
              have h2 : l6.data.length = l6.rows.length := List.length_map ..
              have h3 : l'.rest.data.length = l'.rest.rows.length := List.length_map ..
              have h4 : (ins.map InR.data).length = ins.length := List.length_map ..
              have h5 : l6.data = L2 := HL6.out
              rw [h5] at h2
              rw [HHX.out.1] at h4
              dsimp only at h1
              omega)
             have HO7 := Lib.hid (HO6.out.keep (w' := w6.alloc (.cells #[.slice ia ins.length ic, .int .u8 kd, .int .i64 ea, .int .i64 et, .int .i64 el] 71)) ((Below.refl _ _).alloc (Nat.le_refl _) _))
             have HRO7 := Lib.hid (HRO.out.keep (w' := w6.alloc (.cells #[.slice ia ins.length ic, .int .u8 kd, .int .i64 ea, .int .i64 et, .int .i64 el] 71)) ((Below.refl _ _).alloc (Nat.le_refl _) _))
             have HKB := Lib.hid (Blk.new w6 71 #[.slice ia ins.length ic, .int .u8 kd, .int .i64 ea, .int .i64 et, .int .i64 el])
             have k70 := HKB.out.cells 0
             have k71 := HKB.out.cells 1
             have k72 := HKB.out.cells 2
             have k73 := HKB.out.cells 3
             have k74 := HKB.out.cells 4
             obtain ⟨gB, hgB⟩ : ∃ gB, w6.heap.size = gB := ⟨_, rfl⟩
             have HGB := Lib.hid hgB
             have hnb : gF ≠ gB := by have := HB6.out.blk.lt; omega
             clear hgB
             refine resume ?_
             go_wp2_with (at_builtin; refine wpList_appBl rfl (.tmp 62) (.tmp 64) rfl w.heap.size _ bs ⟨ia, ic, ins, kd, ea, et, el⟩ rfl HO7.out (by rw [World.size_alloc]; rfl) ⟨HRK.out, HRO7.out⟩ (by have := HLN.out; omega) HB7.out.tn.size ?_; intro v8 w8 hown8 hg8; refine pause ?_)
             obtain ⟨bs2, hbs2⟩ : ∃ bs2, bs ++ [(⟨ia, ic, ins, kd, ea, et, el⟩ : BlR)] = bs2 := ⟨_, rfl⟩
             rw [hbs2] at hown8
             have HBS := Lib.hid hbs2
             obtain ⟨A8, c8, rfl, _⟩ := hown8.form
             have HO7b := Lib.hid (HO7.out.keep (w' := (w6.alloc (.cells #[.slice ia ins.length ic, .int .u8 kd, .int .i64 ea, .int .i64 et, .int .i64 el] 71)).alloc (.cells #[.slice ia ins.length ic, .int .u8 kd, .int .i64 ea, .int .i64 et, .int .i64 el] 71)) ((Below.refl _ _).alloc (Nat.le_refl _) _))
             have HB7b := Lib.hid (HB7.out.on (w' := (w6.alloc (.cells #[.slice ia ins.length ic, .int .u8 kd, .int .i64 ea, .int .i64 et, .int .i64 el] 71)).alloc (.cells #[.slice ia ins.length ic, .int .u8 kd, .int .i64 ea, .int .i64 et, .int .i64 el] 71)) ((Below.refl _ _).alloc (Nat.le_refl _) _))
             have HB8 := Lib.hid (HB7b.out.grownB HO7b.out hg8 (Nat.le_refl _) (by decide))
             have hs8 := Spare.grown HO7b.out.row hg8
             have HRB8 := Lib.hid (Blk.spareOf ((HRB6.out.alloc (.cells #[.slice ia ins.length ic, .int .u8 kd, .int .i64 ea, .int .i64 et, .int .i64 el] 71)).alloc (.cells #[.slice ia ins.length ic, .int .u8 kd, .int .i64 ea, .int .i64 et, .int .i64 el] 71)) hs8 (by decide))
             have HKB8 : Hid (Blk w8 gB 71 #[.slice ia ins.length ic, .int .u8 kd, .int .i64 ea, .int .i64 et, .int .i64 el]) := Lib.hid (by
              rw [← HGB.out]
              exact (HKB.out.alloc (.cells #[.slice ia ins.length ic, .int .u8 kd, .int .i64 ea, .int .i64 et, .int .i64 el] 71)).grown hg8 (fun e => by have := (HO6.out.row.lt _ e).2; omega))
             have HO8 := Lib.hid hown8
             have HB9 := Lib.hid (HB8.out.put (by decide) (by decide) (by decide) 1 (.slice A8 bs2.length c8))
             have hs9 : Spare 64 w8 (w8.setCell ⟨gF, 1, none⟩ (.slice A8 bs2.length c8)) := Spare.set HB8.out.blk _
             have HO9 := Lib.hid (HO8.out.spare hs9 (by decide) (by decide) (by decide))
             have HRB9 := Lib.hid (HRB8.out.far (p := ⟨gF, 1, none⟩) (by show w.heap.size ≠ gF; have := HGF.out; omega) (.slice A8 bs2.length c8))
             have HKB9 := Lib.hid (HKB8.out.far (p := ⟨gF, 1, none⟩) (by show gB ≠ gF; omega) (.slice A8 bs2.length c8))
             have k90 := HKB9.out.cells 0
             have f8 := HB8.out.blk.cells 1
             have f9 := HB8.out.blk.free 1
             have HM9 : Hid (lenOf (((w8.setCell ⟨gF, 1, none⟩ (.slice A8 bs2.length c8)).cell? ⟨g, 0, none⟩).getD undef) = l6.rows.length) := Lib.hid (by rw [HB9.out.rd.blk.cells 0]; rfl)
             have hwr : IntKind.i64.wrap (r + (ins.length : Int)) = r + (ins.length : Int) := IntWalk.i64_in _ (by have := HLE.out; have := HLR.out; omega)
             have HR2 := Lib.hid hr2
             clear hown8 hg8 hbs2 hs8 hs9 hr2
             rw [← HGB.out] at k90
             refine resume ?_
             go_wp2_with fail
             go_roundw
             case rel => exact ⟨bs2, A8, c8, l6, x6, r + (ins.length : Int), rfl, HB9.out, HO9.out, HRB9.out, by rw [← HBS.out, List.map_append, HL6.out, show (ins.length : Int) = (xs.length : Int) by rw [← HHX.out.1, List.length_map]]; rw [show List.map BlR.data [(⟨ia, ic, ins, kd, ea, et, el⟩ : BlR)] = [⟨xs, en⟩] from congrArg (fun z => [z]) HRD.out]; exact HTO2.out, HLO6.out, HX6.out, ⟨by omega, by have h1 := HLE.out; have h2 := HLR.out; have h3 := HR2.out; omega⟩, by rw [← HBS.out, List.length_append]; have h1 := HLE.out; have h2 := HLR.out; have h3 := HLN.out; simp only [List.length_cons, List.length_nil]; omega⟩
             case measure => rw [HM9.out, HM0.out]; have h1 := HLE.out; have h2 := HLR.out; omega
         · have HI2 : Hid (functionQ (tbl types) x.data l.data = none) := Lib.hid (by rw [HI.out, HTO.out.bad1 HBT.out (by rw [HDD.out]; show ¬ r1.data.length = 1; rw [HDL.out]; exact h1)]; rfl)
           have q1 : ((r1.xs.length : Int) == 1) = false := by simp; omega
           clear h1
           go_wp2_with (first
            | (go_at_call 56; refine HFI.out.mono ?_; rintro e w3 ⟨rfl, rfl⟩)
            | (go_at_call 57; refine HNX.out.mono ?_; rintro e w4 ⟨rfl, hr, ht⟩; have HB4 := Lib.hid (Bx.call HBX.out hr ht (by decide)); have c4 := HB4.out.rd.blk.cells 1; clear hr ht)
            | (go_at_call 60; refine (hno _).mono ?_; rintro e w5 ⟨rfl, rfl⟩))
           exact ⟨rfl, HB4.out.tn, by rw [HI2.out]⟩
end
set_option maxRecDepth 100000 in
theorem step_appTy {w : World} {ops : Array Oper} {o : Oper} {a : Act} {K : Act → World → Prop} {Q : Exit → Act → World → Prop} {E : Prop} (hgd : o.guard = none) (s x : Operand)
    (ho : o.op = .call { callee := .builtin .append, args := #[s, x], argTypes := #[22, 22] })
    (lo : Nat) (v : Value) (rows : List TyR) (r : TyR) (hs : a.eval s = v) (hown : OwnTys w lo v rows) (B : Nat) (hx : a.eval x = .slice (some ⟨B, 0, none⟩) 1 1)
    (hB : Blk w B 78 #[.int .u8 r.kind, .int .i64 r.elem, .int .i64 r.many, .slice r.pa r.parts.length r.pc]) (hr : OwnInts w lo (.slice r.pa r.parts.length r.pc) r.parts) (hk : r.kind ≤ 255) (hlo : lo ≤ w.heap.size) (hlen : rows.length ≤ 1000000)
    (h : ∀ v' w', OwnTys w' lo v' (rows ++ [r]) → w.grownBy w' v.ownBlock → K (a.put o.dst v') w') :
    if Region.wanted o (yielded ops a.tmps) = true then Oper.wp Tryz.prog o a w K Q else E := by
 obtain ⟨i0, hi, hz0, hz1, hz2⟩ := info_parts typeInfo
 refine step_append_lies (P := Tryz.prog) w hgd s x 22 ho lo 78 i0 _ 4 48 Tryz.underlying22 hi hz0 hz1 hz2 rfl (by decide) v rows.length _ hs hown.row ⟨B, 0, none⟩ 1 1 r.cells4 hx rfl (World.news_of_block hB) ?_ (by omega) ?_ ?_ hlo _ rfl ?_
 · intro u hu
   simp only [TyR.cells4, List.mem_cons, List.not_mem_nil, or_false] at hu
   rcases hu with rfl | rfl | rfl | rfl <;> rfl
 · unfold maxLen; omega
 · omega
 · intro g cap w2 h1 h2 h3 h4
   refine h _ w2 (OwnTys.push hown h1 h2 (fun q hq => ?_) hr ?_ hk) h2
   · exact rows_ne (hown.inner q hq).1 hown.row (by decide)
   · exact rows_ne hr hown.row (by decide)
theorem type_word {l : LsR} : (((l.rows.headD default).xs.headD ⟨#[]⟩).toList == [116, 121, 112, 101]) = (match l.data with
    | w :: _ => w.headD [] == bType
    | [] => false) := by
 obtain ⟨A, c, rows⟩ := l
 cases rows with
 | nil =>
   show ((⟨#[]⟩ : ByteArray).toList == _) = false
   rw [ByteArray.toList_eq]
   rfl
 | cons r rest =>
   obtain ⟨A2, c2, xs⟩ := r
   cases xs with
   | nil =>
     show ((⟨#[]⟩ : ByteArray).toList == _) = (([] : Bs) == bType)
     rw [ByteArray.toList_eq]
     rfl
   | cons s t =>
     show (s.toList == _) = (toL s == bType)
     rw [ByteArray.toList_eq]
     rfl
def ProgOut (w : World) (g : Nat) (o : Option PProg) (e : Ending) (w' : World) : Prop :=
 Tn g w w' ∧ match o with
 | none => e = giveUp
 | some p => ∃ (r : PrR) (l' : LsR) (x' : LnR), e = .returned (.tuple #[]) ∧ r.data = p ∧ OwnPr w' w.heap.size r ∧ Rdr w' g l' x' (.slice r.ta r.types.length r.tc) (.slice r.fa r.funs.length r.fc)
section
variable {g B : Nat} {w0 w w' : World} {l : LsR} {x : LnR} {tv fv : Value} {t : TypeId} {cs : Array Value}
theorem Rdr.grown (h : Rdr w g l x tv fv) {lo size n : Nat} {e : TypeId} {v : Value} {xs : List Value} (ho : w.ownsRow lo e size v n xs) (hg : w.grownBy w' v.ownBlock) (h1 : 9 ≠ e) (h2 : 51 ≠ e) (h3 : 55 ≠ e) : Rdr w' g l x tv fv :=
 h.spare (Spare.grown ho hg) h1 h2 h3
set_option maxRecDepth 100000 in
set_option maxHeartbeats 3200000 in
theorem rprogram_any (h : Rdr w g l x (.slice none 0 0) (.slice none 0 0)) (hl : LOk l) (hT : TabW w) :
    Calls Tryz.prog 25 #[.pointer (some ⟨g, 0, none⟩)] w (ProgOut w g (programQ l.data)) := by
 have hg0 := h.ne0 hT
 have HX := Lib.hid h
 have HT := Lib.hid hT
 have HL := Lib.hid hl
 have hyes := need_yes
 have hno := need_no
 clear h hT hl
 go_enter Tryz.func25, Tryz.ntmps25
 go_wp2_with fail
 go_loopw [] (fun wr => ∃ (ts : List TyR) (A : Option Addr) (c : Nat) (l' : LsR) (x' : LnR), Rdr wr g l' x' (.slice A ts.length c) (.slice none 0 0) ∧ OwnTys wr w.heap.size (.slice A ts.length c) ts ∧ TypesTo l.data (ts.map TyR.data) l'.data ∧ LOk l' ∧ Tn g w wr ∧ ts.length + l'.rows.length ≤ 20000 ∧ ∀ t ∈ ts, t.parts.length ≤ 20000) (fun wr => lenOf ((wr.cell? ⟨g, 0, none⟩).getD undef))
 case atStart => exact ⟨[], none, 0, l, x, HX.out, OwnTys.nil _ _, TypesTo.start _, HL.out, Tn.refl _ _, by have := HL.out.len; simpa using this, fun t ht => by cases ht⟩
 case round =>
  obtain ⟨ts, A, c, l', x', hrd, hown, hto, hlo, htn, hlen, hfew⟩ := hrel
  have HR := Lib.hid hrd
  have HO := Lib.hid hown
  have HTO := Lib.hid hto
  have HLO := Lib.hid hlo
  have HTN := Lib.hid htn
  have HLN := Lib.hid hlen
  have HFW := Lib.hid hfew
  have HFI := Lib.hid (first_any hrd hlo.full rfl)
  have HM0 : Hid (lenOf ((wr.cell? ⟨g, 0, none⟩).getD undef) = l'.rows.length) := Lib.hid (by rw [hrd.blk.cells 0]; rfl)
  have tw := type_word (l := l')
  obtain ⟨s, hs⟩ : ∃ s, (l'.rows.headD default).xs.headD ⟨#[]⟩ = s := ⟨_, rfl⟩
  rw [hs] at HFI tw
  obtain ⟨b, hb⟩ : ∃ b, (match l'.data with
   | w :: _ => w.headD [] == bType
   | [] => false) = b := ⟨_, rfl⟩
  rw [hb] at tw
  have HBT := Lib.hid hb
  clear hrd hown hto hlo htn hlen hfew hs hb
  cases b with
  | false =>
    have hd : typesQ l.data = some (ts.map TyR.data, l'.data) := by
     have h1 := HBT.out
     have h2 := HTO.out
     cases hd : l'.data with
     | nil => rw [hd] at h2; exact h2.ends
     | cons w t =>
       rw [hd] at h1 h2
       exact h2.done (by simpa using h1)
    have HP : Hid (programQ l.data = (funsR (tbl ts) l'.data).map fun fs => ⟨tbl ts, fs⟩) := Lib.hid (by unfold programQ; rw [hd]; rfl)
    clear hd
    go_wp2_with (go_at_call 56; refine HFI.out.mono ?_; rintro e w1 ⟨rfl, rfl⟩)
    obtain ⟨wo, hwo⟩ : ∃ wo : World, wo = w1 := ⟨_, rfl⟩
    subst hwo
    go_loopw [] (fun w2 => ∃ (fs : List FuR) (A2 : Option Addr) (c2 : Nat) (l2 : LsR) (x2 : LnR), Rdr w2 g l2 x2 (.slice A ts.length c) (.slice A2 fs.length c2) ∧ OwnTys w2 w.heap.size (.slice A ts.length c) ts ∧ OwnFus w2 w.heap.size (.slice A2 fs.length c2) fs ∧ FunsTo (tbl ts) l'.data (fs.map FuR.data) l2.data ∧ LOk l2 ∧ Tn g w w2 ∧ fs.length + l2.rows.length ≤ 20000) (fun w2 => lenOf ((w2.cell? ⟨g, 0, none⟩).getD undef))
    case atStart => exact ⟨[], none, 0, l', x', HR.out, HO.out, OwnFus.nil _ _, FunsTo.start _ _, HLO.out, HTN.out, by have := HLN.out; simp only [List.length_nil]; omega⟩
    case round =>
     obtain ⟨fs, A2, c2, l2, x2, hrd, hot, hown, hto, hlo, htn, hlen⟩ := hrel
     have HR2 := Lib.hid hrd
     have HOT := Lib.hid hot
     have HOF := Lib.hid hown
     have HTF := Lib.hid hto
     have HLO2 := Lib.hid hlo
     have HTN2 := Lib.hid htn
     have HLN2 := Lib.hid hlen
     have HNX := Lib.hid (next_any hrd)
     have HM2 : Hid (lenOf ((wr.cell? ⟨g, 0, none⟩).getD undef) = l2.rows.length) := Lib.hid (by rw [hrd.blk.cells 0]; rfl)
     have HTW := Lib.hid (HT.out.tn hg0 htn)
     clear hrd hot hown hto hlo htn hlen
     cases hd : l2.rows with
     | nil =>
       rw [hd] at HNX
       have HI : Hid (programQ l.data = some ⟨tbl ts, fs.map FuR.data⟩) := Lib.hid (by
        have h2 := HTF.out
        rw [show l2.data = [] by show l2.rows.map LnR.data = []; rw [hd]; rfl] at h2
        rw [HP.out, h2.done]
        rfl)
       clear hd
       go_wp2_with (go_at_call 57; refine HNX.out.mono ?_; rintro e w3 ⟨rfl, rfl⟩)
       refine bodyPost_end (results_none rfl _ _ _) rfl ?_
       exact ⟨HTN2.out, by rw [HI.out]; exact ⟨⟨A, c, ts, A2, c2, fs⟩, l2, x2, rfl, rfl, ⟨HOT.out, HOF.out⟩, HR2.out⟩⟩
     | cons r rest =>
       rw [hd] at HNX
       obtain ⟨hdd, hlr⟩ := LsR.rest_data hd
       have hmem : r ∈ l2.rows := by rw [hd]; exact List.mem_cons_self ..
       obtain ⟨hr0, hfw⟩ := HLO2.out.full r hmem
       have HDD := Lib.hid hdd
       have HLR := Lib.hid hlr
       clear hd hdd hlr hmem hfw
       cases hxs : r.xs with
       | nil => rw [hxs] at hr0; exact absurd hr0 (Nat.lt_irrefl _)
       | cons s0 t0 =>
         have HXS := Lib.hid hxs
         have HHD : Hid (r.data = toL s0 :: r.rest.data) := Lib.hid (by show r.xs.map toL = toL s0 :: (r.xs.drop 1).map toL; rw [hxs]; rfl)
         clear hxs hr0
         by_cases hf : toL s0 = bFunc
         · have e0 : (s0.toList == [102, 117, 110, 99]) = true := str_yes hf
           obtain ⟨o, ho⟩ : ∃ o, functionQ (tbl ts) r.rest.data l2.rest.data = o := ⟨_, rfl⟩
           have HTB := Lib.hid (show FunsTo (tbl ts) l'.data (fs.map FuR.data) ((toL s0 :: r.rest.data) :: l2.rest.data) by rw [← HHD.out, ← HDD.out]; exact HTF.out)
           have HFE := Lib.hid (show (toL s0 :: r.rest.data).headD [] = bFunc from hf)
           clear hf
           go_wp2_with (first
            | (go_at_call 57; refine HNX.out.mono ?_; rintro e w3 ⟨rfl, hr, ht⟩; have HR3 := Lib.hid hr; have HT3 := Lib.hid ht; clear hr ht)
            | (go_at_call 58; refine (word_yes HR3.out HXS.out).mono ?_; rintro e w4 ⟨rfl, hr, ht⟩; have HR4 := Lib.hid hr; have HT4 := Lib.hid (HT3.out.trans ht); clear hr ht)
            | (go_at_call 60; refine (hyes _).mono ?_; rintro e w5 ⟨rfl, rfl⟩))
           have HS4 := Lib.hid (HT4.out.spare HR2.out.blk)
           have HOT4 := Lib.hid ((HOT.out.spare HS4.out (by decide) (by decide)).keep ((Below.refl _ _).drew))
           have HOF4 := Lib.hid ((HOF.out.spare HS4.out (by decide) (by decide) (by decide) (by decide)).keep ((Below.refl _ _).drew))
           have HRd := Lib.hid (HR4.out.on ((Below.refl _ _).drew))
           have HTd := Lib.hid (HT4.out.on ((Below.refl _ _).drew))
           have HFU := Lib.hid (rfunction_any HRd.out HLO2.out.rest (HTW.out.tn hg0 HTd.out) rfl HOT4.out HFW.out)
           rw [ho] at HFU
           have HOq := Lib.hid ho
           have i3 := HR4.out.blk.cells 3
           clear ho
           refine wp_region_T (fun w' => w'.cell? ⟨g, 3, none⟩ = some (.slice A2 fs.length c2)) 13 (by kernel_rfl) i3 (fun hHeld => ?_)
           refine wpAnyT_take (i := 0) (by kernel_rfl) (by decide) rfl (by kernel_rfl) (by kernel_rfl) (by kernel_rfl) (fun _ _ _ h => h) (Or.inl ⟨by rfl, by (intro w hSw; (try dsimp only at hSw); go_simp; (try with_reducible rfl))⟩) (by assumption) ?_; (try simp only [Act.put, List.setIfInBounds_toArray, List.set_cons_zero, List.set_cons_succ])
           refine wpAnyT_take (i := 1) (by kernel_rfl) (by decide) rfl (by kernel_rfl) (by kernel_rfl) (by kernel_rfl) (fun _ _ _ h => h) (Or.inl ⟨by rfl, by (intro w hSw; (try dsimp only at hSw); go_simp; (try with_reducible rfl))⟩) (by assumption) ?_; (try simp only [Act.put, List.setIfInBounds_toArray, List.set_cons_zero, List.set_cons_succ])
           refine wpAnyT_take (i := 2) (by kernel_rfl) (by decide) rfl (by kernel_rfl) (by kernel_rfl) (by kernel_rfl) (fun _ _ _ h => h) (Or.inl ⟨by rfl, by (intro w hSw; (try dsimp only at hSw); go_simp; (try with_reducible rfl))⟩) (by assumption) ?_; (try simp only [Act.put, List.setIfInBounds_toArray, List.set_cons_zero, List.set_cons_succ])
           refine wpAnyT_take (i := 3) (by kernel_rfl) (by decide) rfl (by kernel_rfl) (by kernel_rfl) (by kernel_rfl) (fun _ _ _ h => h) (Or.inl ⟨by rfl, by (intro w hSw; (try dsimp only at hSw); go_simp; (try with_reducible rfl))⟩) (by assumption) ?_; (try simp only [Act.put, List.setIfInBounds_toArray, List.set_cons_zero, List.set_cons_succ])
           refine wpAnyT_take (i := 4) (by kernel_rfl) (by decide) rfl (by kernel_rfl) (by kernel_rfl) (by kernel_rfl) (fun _ _ _ h => h) (Or.inl ⟨by rfl, by (intro w hSw; (try dsimp only at hSw); go_simp; (try with_reducible rfl))⟩) (by assumption) ?_; (try simp only [Act.put, List.setIfInBounds_toArray, List.set_cons_zero, List.set_cons_succ])
           refine wpAnyT_take (i := 5) (by kernel_rfl) (by decide) rfl (by kernel_rfl) (by kernel_rfl) (by kernel_rfl) (fun _ _ _ h => h) (Or.inl ⟨by rfl, by (intro w hSw; (try dsimp only at hSw); go_simp; (try with_reducible rfl))⟩) (by assumption) ?_; (try simp only [Act.put, List.setIfInBounds_toArray, List.set_cons_zero, List.set_cons_succ])
           refine wpAnyT_take (i := 6) (by kernel_rfl) (by decide) rfl (by kernel_rfl) (by kernel_rfl) (by kernel_rfl) (fun _ _ _ h => h) (Or.inl ⟨by rfl, by (intro w hSw; (try dsimp only at hSw); go_simp; (try with_reducible rfl))⟩) (by assumption) ?_; (try simp only [Act.put, List.setIfInBounds_toArray, List.set_cons_zero, List.set_cons_succ])
           refine wpAnyT_one (i := 7) (by kernel_rfl) rfl (fun K hK => ?_)
           go_simp
           refine HFU.out.mono ?_
           rintro e w6 ⟨ht, hm⟩
           cases o with
           | none =>
             have hm : e = giveUp := hm
             subst hm
             exact ⟨rfl, HTN2.out.trans (HTd.out.trans ht), by rw [HP.out, HTB.out.bad2 HOq.out]; rfl⟩
           | some q =>
             obtain ⟨f, L2⟩ := q
             obtain ⟨v6, l6, x6, rfl, ⟨rf, rfl, hrf, hro⟩, hl6, hlo6, hx6, hr6⟩ := hm
             have HT6 := Lib.hid (HTd.out.trans ht)
             have hsp := ht.spare HRd.out.blk
             have HOT6 := Lib.hid (HOT4.out.spare hsp (by decide) (by decide))
             have HOF6 := Lib.hid (HOF4.out.spare hsp (by decide) (by decide) (by decide) (by decide))
             have hsz : w.heap.size ≤ w5.drew.heap.size := (HTN2.out.trans HTd.out).size
             have HRO := Lib.hid (OwnBls.more hro hsz)
             have HR6 := Lib.hid hr6
             have HRF := Lib.hid hrf
             have HL6 := Lib.hid hl6
             have HLO6 := Lib.hid hlo6
             clear ht hsp hr6 hro hrf hl6 hlo6 hx6
             obtain ⟨sig, ba, bc, blocks⟩ := rf
             unfold FuR.val
             dsimp only at *
             have i6 : w6.cell? ⟨g, 3, none⟩ = some (.slice A2 fs.length c2) := HR6.out.blk.cells 3
             refine hK.out _ _ (fun _ => i6) (fun hH => ?_); clear hHeld hK K; have hHeld := hH (by decide); clear hH
             refine wpAnyT_one (i := 8) (by kernel_rfl) rfl (fun K hK => ?_)
             go_simp
             have HR7 := Lib.hid (HR6.out.on (w' := w6.alloc (.cells #[.int .i64 sig, .slice ba blocks.length bc] 64)) ((Below.refl _ _).alloc (Nat.le_refl _) _))
             have HOT7 := Lib.hid (HOT6.out.keep (w' := w6.alloc (.cells #[.int .i64 sig, .slice ba blocks.length bc] 64)) ((Below.refl _ _).alloc (Nat.le_refl _) _))
             have HOF7 := Lib.hid (HOF6.out.keep (w' := w6.alloc (.cells #[.int .i64 sig, .slice ba blocks.length bc] 64)) ((Below.refl _ _).alloc (Nat.le_refl _) _))
             have HT7 := Lib.hid (HT6.out.on (w2 := w6.alloc (.cells #[.int .i64 sig, .slice ba blocks.length bc] 64)) ((Below.refl _ _).alloc (Nat.le_refl _) _))
             have i7 : (w6.alloc (.cells #[.int .i64 sig, .slice ba blocks.length bc] 64)).cell? ⟨g, 3, none⟩ = some (.slice A2 fs.length c2) := HR7.out.blk.cells 3
             refine hK.out _ _ (fun _ => i7) (fun hH => ?_); clear hHeld hK K; have hHeld := hH (by decide); clear hH
             refine wpAnyT_one (i := 9) (by kernel_rfl) rfl (fun K hK => ?_)
             refine step_appF rfl (.tmp 53) (.tmp 56) rfl w.heap.size _ fs ⟨sig, ba, bc, blocks⟩ (by rfl) HOF7.out w6.heap.size (by rfl) (Blk.new w6 _ _) (OwnBls.keep HRO.out ((Below.refl _ _).alloc (Nat.le_refl _) _)) ((HTN2.out.trans HT7.out).size) (by have := HLN2.out; omega) ?_
             rintro v8 w8 hof8 hg8
             have HS8 := Lib.hid (Spare.grown HOF7.out.row hg8)
             have HR8 := Lib.hid (HR7.out.spare HS8.out (by decide) (by decide) (by decide))
             have HOT8 := Lib.hid (HOT7.out.spare HS8.out (by decide) (by decide))
             have HT8 := Lib.hid ((HTN2.out.trans HT7.out).grown hg8 (own_base HOF7.out.row))
             obtain ⟨fs2, hfs2⟩ : ∃ fs2, fs ++ [(⟨sig, ba, bc, blocks⟩ : FuR)] = fs2 := ⟨_, rfl⟩
             rw [hfs2] at hof8
             have HFS := Lib.hid hfs2
             obtain ⟨A8, c8, rfl, _⟩ := hof8.form
             have HOF8 := Lib.hid hof8
             have i8 : w8.cell? ⟨g, 3, none⟩ = some (.slice A2 fs.length c2) := HR8.out.blk.cells 3
             clear hof8 hg8 hfs2
             try dsimp only
             refine hK.out _ _ (fun _ => i8) (fun hH => ?_); clear hHeld hK K; have hHeld := hH (by decide); clear hH
             refine wpAnyT_one (i := 10) (by kernel_rfl) rfl (fun K hK => ?_)
             go_simp
             refine hK.out _ _ (fun _ => i8) (fun hH => ?_); clear hHeld hK K; have hHeld := hH (by decide); clear hH
             refine wpAnyT_one (i := 11) (by kernel_rfl) rfl (fun K hK => ?_)
             go_simp
             refine hK.out _ _ (fun _ => i8) (fun hH => ?_); clear hHeld hK K; have hHeld := hH (by decide); clear hH
             refine wpAnyT_one (i := 12) (by kernel_rfl) rfl (fun K hK => ?_)
             go_simp
             refine hK.out _ _ (fun _ => i8) (fun hH => ?_); clear hHeld hK K; have hHeld := hH (by decide); clear hH
             refine wpAnyT_one (i := 13) (by kernel_rfl) rfl (fun K hK => ?_)
             have j8 := HR8.out.blk.free 3
             go_simp
             refine hK.out _ _ (fun e => absurd rfl e) (fun hH => ?_); refine wpAnyT_done (by kernel_rfl) ?_ _; clear hHeld hK K hH
             have HR9 := Lib.hid (HR8.out.funs (.slice A8 fs2.length c8))
             have HS9 := Lib.hid (Spare.set (j := 3) HR8.out.blk (.slice A8 fs2.length c8))
             have HOT9 := Lib.hid (HOT8.out.spare HS9.out (by decide) (by decide))
             have HOF9 := Lib.hid (HOF8.out.spare HS9.out (by decide) (by decide) (by decide) (by decide))
             have HT9 := Lib.hid (HT8.out.put 3 (.slice A8 fs2.length c8))
             have HM9 : Hid (lenOf (((w8.setCell ⟨g, 3, none⟩ (.slice A8 fs2.length c8)).cell? ⟨g, 0, none⟩).getD undef) = l6.rows.length) := Lib.hid (by rw [HR9.out.blk.cells 0]; rfl)
             have HLE : Hid (l6.rows.length ≤ l2.rest.rows.length) := Lib.hid (by
              have h1 := functionQ_len HOq.out
              have h2 : l6.data.length = l6.rows.length := List.length_map ..
              have h3 : l2.rest.data.length = l2.rest.rows.length := List.length_map ..
              rw [HL6.out] at h2
              dsimp only at h1
              omega)
             go_wp2_with fail
             go_roundw
             case rel => exact ⟨fs2, A8, c8, l6, x6, HR9.out, HOT9.out, HOF9.out, by rw [← HFS.out, List.map_append, HL6.out]; exact HTB.out.step HFE.out (by show functionQ (tbl ts) r.rest.data l2.rest.data = _; rw [HOq.out, ← HRF.out]), HLO6.out, HT9.out, by rw [← HFS.out, List.length_append]; have h1 := HLN2.out; have h2 := HLE.out; have h3 := HLR.out; simp only [List.length_cons, List.length_nil]; omega⟩
             case measure => rw [HM9.out, HM2.out]; have h2 := HLE.out; have h3 := HLR.out; omega
         · have e0 : (s0.toList == [102, 117, 110, 99]) = false := str_no hf
           have HI : Hid (programQ l.data = none) := Lib.hid (by
            have h2 := HTF.out
            rw [HDD.out] at h2
            rw [HP.out, h2.bad1 (by rw [HHD.out]; exact hf)]
            rfl)
           clear hf
           go_wp2_with (first
            | (go_at_call 57; refine HNX.out.mono ?_; rintro e w3 ⟨rfl, hr, ht⟩; have HR3 := Lib.hid hr; have HT3 := Lib.hid ht; clear hr ht)
            | (go_at_call 58; refine (word_yes HR3.out HXS.out).mono ?_; rintro e w4 ⟨rfl, hr, ht⟩; have HT4 := Lib.hid (HT3.out.trans ht); clear hr ht)
            | (go_at_call 60; refine (hno _).mono ?_; rintro e w5 ⟨rfl, rfl⟩))
           exact ⟨rfl, HTN2.out.trans HT4.out, by rw [HI.out]⟩
  | true =>
    have HNX := Lib.hid (next_any HR.out)
    cases hd : l'.rows with
    | nil =>
      have h1 := HBT.out
      rw [show l'.data = [] by show l'.rows.map LnR.data = []; rw [hd]; rfl] at h1
      cases h1
    | cons r rest =>
      rw [hd] at HNX
      obtain ⟨hdd, hlr⟩ := LsR.rest_data hd
      have hmem : r ∈ l'.rows := by rw [hd]; exact List.mem_cons_self ..
      obtain ⟨hr0, hfw⟩ := HLO.out.full r hmem
      have hfe := HLO.out.few r hmem
      have HDD := Lib.hid hdd
      have HLR := Lib.hid hlr
      have HHT : Hid (r.data.headD [] = bType) := Lib.hid (by have h1 := HBT.out; rw [hdd] at h1; exact eq_of_beq h1)
      clear hd hdd hlr hmem hfw
      cases hxs : r.xs with
      | nil => rw [hxs] at hr0; exact absurd hr0 (Nat.lt_irrefl _)
      | cons s0 t0 =>
        have HXS := Lib.hid hxs
        have HHD : Hid (r.data = toL s0 :: r.rest.data) := Lib.hid (by show r.xs.map toL = toL s0 :: (r.xs.drop 1).map toL; rw [hxs]; rfl)
        have HFE : Hid (r.rest.xs.length ≤ 20000) := Lib.hid (by show (r.xs.drop 1).length ≤ 20000; rw [List.length_drop]; omega)
        clear hxs hr0 hfe
        obtain ⟨o, ho⟩ : ∃ o, kindQ r.rest.data = o := ⟨_, rfl⟩
        have HTB := Lib.hid (show TypesTo l.data (ts.map TyR.data) ((toL s0 :: r.rest.data) :: l'.rest.data) by rw [← HHD.out, ← HDD.out]; exact HTO.out)
        have HHE := Lib.hid (show (toL s0 :: r.rest.data).headD [] = bType by rw [← HHD.out]; exact HHT.out)
        go_wp2_with (first
         | (go_at_call 56; refine HFI.out.mono ?_; rintro e w1 ⟨rfl, rfl⟩)
         | (go_at_call 57; refine HNX.out.mono ?_; rintro e w3 ⟨rfl, hr, ht⟩; have HR3 := Lib.hid hr; have HT3 := Lib.hid ht; clear hr ht)
         | (go_at_call 58; refine (word_yes HR3.out HXS.out).mono ?_; rintro e w4 ⟨rfl, hr, ht⟩; have HR4 := Lib.hid hr; have HT4 := Lib.hid (HT3.out.trans ht); clear hr ht))
        have HS4 := Lib.hid (HT4.out.spare HR.out.blk)
        have HO4 := Lib.hid ((HO.out.spare HS4.out (by decide) (by decide)).keep ((Below.refl _ _).drew))
        have HRd := Lib.hid (HR4.out.on ((Below.refl _ _).drew))
        have HTd := Lib.hid (HT4.out.on ((Below.refl _ _).drew))
        have HKI := Lib.hid (rkind_any HRd.out HFE.out)
        rw [ho] at HKI
        have HOq := Lib.hid ho
        have i2 := HR4.out.blk.cells 2
        clear ho
        refine wp_region_T (fun w' => w'.cell? ⟨g, 2, none⟩ = some (.slice A ts.length c)) 13 (by kernel_rfl) i2 (fun hHeld => ?_)
        refine wpAnyT_take (i := 0) (by kernel_rfl) (by decide) rfl (by kernel_rfl) (by kernel_rfl) (by kernel_rfl) (fun _ _ _ h => h) (Or.inl ⟨by rfl, by (intro w hSw; (try dsimp only at hSw); go_simp; (try with_reducible rfl))⟩) (by assumption) ?_; (try simp only [Act.put, List.setIfInBounds_toArray, List.set_cons_zero, List.set_cons_succ])
        refine wpAnyT_take (i := 1) (by kernel_rfl) (by decide) rfl (by kernel_rfl) (by kernel_rfl) (by kernel_rfl) (fun _ _ _ h => h) (Or.inl ⟨by rfl, by (intro w hSw; (try dsimp only at hSw); go_simp; (try with_reducible rfl))⟩) (by assumption) ?_; (try simp only [Act.put, List.setIfInBounds_toArray, List.set_cons_zero, List.set_cons_succ])
        refine wpAnyT_take (i := 2) (by kernel_rfl) (by decide) rfl (by kernel_rfl) (by kernel_rfl) (by kernel_rfl) (fun _ _ _ h => h) (Or.inl ⟨by rfl, by (intro w hSw; (try dsimp only at hSw); go_simp; (try with_reducible rfl))⟩) (by assumption) ?_; (try simp only [Act.put, List.setIfInBounds_toArray, List.set_cons_zero, List.set_cons_succ])
        refine wpAnyT_take (i := 3) (by kernel_rfl) (by decide) rfl (by kernel_rfl) (by kernel_rfl) (by kernel_rfl) (fun _ _ _ h => h) (Or.inl ⟨by rfl, by (intro w hSw; (try dsimp only at hSw); go_simp; (try with_reducible rfl))⟩) (by assumption) ?_; (try simp only [Act.put, List.setIfInBounds_toArray, List.set_cons_zero, List.set_cons_succ])
        refine wpAnyT_take (i := 4) (by kernel_rfl) (by decide) rfl (by kernel_rfl) (by kernel_rfl) (by kernel_rfl) (fun _ _ _ h => h) (Or.inl ⟨by rfl, by (intro w hSw; (try dsimp only at hSw); go_simp; (try with_reducible rfl))⟩) (by assumption) ?_; (try simp only [Act.put, List.setIfInBounds_toArray, List.set_cons_zero, List.set_cons_succ])
        refine wpAnyT_take (i := 5) (by kernel_rfl) (by decide) rfl (by kernel_rfl) (by kernel_rfl) (by kernel_rfl) (fun _ _ _ h => h) (Or.inl ⟨by rfl, by (intro w hSw; (try dsimp only at hSw); go_simp; (try with_reducible rfl))⟩) (by assumption) ?_; (try simp only [Act.put, List.setIfInBounds_toArray, List.set_cons_zero, List.set_cons_succ])
        refine wpAnyT_take (i := 6) (by kernel_rfl) (by decide) rfl (by kernel_rfl) (by kernel_rfl) (by kernel_rfl) (fun _ _ _ h => h) (Or.inl ⟨by rfl, by (intro w hSw; (try dsimp only at hSw); go_simp; (try with_reducible rfl))⟩) (by assumption) ?_; (try simp only [Act.put, List.setIfInBounds_toArray, List.set_cons_zero, List.set_cons_succ])
        refine wpAnyT_one (i := 7) (by kernel_rfl) rfl (fun K hK => ?_)
        go_simp
        refine HKI.out.mono ?_
        rintro e w6 ⟨ht, hm⟩
        cases o with
        | none =>
          have hm : e = giveUp := hm
          subst hm
          have hb : programQ l.data = none := by unfold programQ; rw [HTB.out.bad HHE.out (by show lineQ (kindQ r.rest.data) = none; rw [HOq.out]; rfl)]
          exact ⟨rfl, HTN.out.trans (HTd.out.trans ht), by rw [hb]⟩
        | some q =>
          obtain ⟨ty, W⟩ := q
          obtain ⟨v6, x6, rfl, ⟨rt, rfl, hrt, hro, hk⟩, hx6, hr6⟩ := hm
          have HT6 := Lib.hid (HTd.out.trans ht)
          have hsp := ht.spare HRd.out.blk
          have HO6 := Lib.hid (HO4.out.spare hsp (by decide) (by decide))
          have hsz : w.heap.size ≤ w4.drew.heap.size := (HTN.out.trans HTd.out).size
          have HRO := Lib.hid (hro.more hsz)
          have HR6 := Lib.hid hr6
          have HRT := Lib.hid hrt
          have HX6 := Lib.hid hx6
          have HK6 := Lib.hid hk
          clear ht hsp hr6 hro hrt hx6 hk
          obtain ⟨kd, el, mn, pa, pc, parts⟩ := rt
          unfold TyR.val
          dsimp only at *
          have i6 : w6.cell? ⟨g, 2, none⟩ = some (.slice A ts.length c) := HR6.out.blk.cells 2
          refine hK.out _ _ (fun _ => i6) (fun hH => ?_); clear hHeld hK K; have hHeld := hH (by decide); clear hH
          refine wpAnyT_one (i := 8) (by kernel_rfl) rfl (fun K hK => ?_)
          go_simp
          have HR7 := Lib.hid (HR6.out.on (w' := w6.alloc (.cells #[.int .u8 kd, .int .i64 el, .int .i64 mn, .slice pa parts.length pc] 78)) ((Below.refl _ _).alloc (Nat.le_refl _) _))
          have HO7 := Lib.hid (HO6.out.keep (w' := w6.alloc (.cells #[.int .u8 kd, .int .i64 el, .int .i64 mn, .slice pa parts.length pc] 78)) ((Below.refl _ _).alloc (Nat.le_refl _) _))
          have HT7 := Lib.hid (HT6.out.on (w2 := w6.alloc (.cells #[.int .u8 kd, .int .i64 el, .int .i64 mn, .slice pa parts.length pc] 78)) ((Below.refl _ _).alloc (Nat.le_refl _) _))
          have i7 : (w6.alloc (.cells #[.int .u8 kd, .int .i64 el, .int .i64 mn, .slice pa parts.length pc] 78)).cell? ⟨g, 2, none⟩ = some (.slice A ts.length c) := HR7.out.blk.cells 2
          refine hK.out _ _ (fun _ => i7) (fun hH => ?_); clear hHeld hK K; have hHeld := hH (by decide); clear hH
          refine wpAnyT_one (i := 9) (by kernel_rfl) rfl (fun K hK => ?_)
          refine step_appTy rfl (.tmp 22) (.tmp 25) rfl w.heap.size _ ts ⟨kd, el, mn, pa, pc, parts⟩ (by rfl) HO7.out w6.heap.size (by rfl) (Blk.new w6 _ _) (HRO.out.keep ((Below.refl _ _).alloc (Nat.le_refl _) _)) HK6.out ((HTN.out.trans HT7.out).size) (by have := HLN.out; omega) ?_
          rintro v8 w8 hot8 hg8
          have HS8 := Lib.hid (Spare.grown HO7.out.row hg8)
          have HR8 := Lib.hid (HR7.out.spare HS8.out (by decide) (by decide) (by decide))
          have HT8 := Lib.hid ((HTN.out.trans HT7.out).grown hg8 (own_base HO7.out.row))
          obtain ⟨ts2, hts2⟩ : ∃ ts2, ts ++ [(⟨kd, el, mn, pa, pc, parts⟩ : TyR)] = ts2 := ⟨_, rfl⟩
          rw [hts2] at hot8
          have HTS := Lib.hid hts2
          obtain ⟨A8, c8, rfl, _⟩ := hot8.form
          have HO8 := Lib.hid hot8
          have i8 : w8.cell? ⟨g, 2, none⟩ = some (.slice A ts.length c) := HR8.out.blk.cells 2
          clear hot8 hg8 hts2
          try dsimp only
          refine hK.out _ _ (fun _ => i8) (fun hH => ?_); clear hHeld hK K; have hHeld := hH (by decide); clear hH
          refine wpAnyT_one (i := 10) (by kernel_rfl) rfl (fun K hK => ?_)
          go_simp
          refine hK.out _ _ (fun _ => i8) (fun hH => ?_); clear hHeld hK K; have hHeld := hH (by decide); clear hH
          refine wpAnyT_one (i := 11) (by kernel_rfl) rfl (fun K hK => ?_)
          go_simp
          refine hK.out _ _ (fun _ => i8) (fun hH => ?_); clear hHeld hK K; have hHeld := hH (by decide); clear hH
          refine wpAnyT_one (i := 12) (by kernel_rfl) rfl (fun K hK => ?_)
          go_simp
          refine hK.out _ _ (fun _ => i8) (fun hH => ?_); clear hHeld hK K; have hHeld := hH (by decide); clear hH
          refine wpAnyT_one (i := 13) (by kernel_rfl) rfl (fun K hK => ?_)
          have j8 := HR8.out.blk.free 2
          go_simp
          refine hK.out _ _ (fun e => absurd rfl e) (fun hH => ?_); refine wpAnyT_done (by kernel_rfl) ?_ _; clear hHeld hK K hH
          have HR9 := Lib.hid (HR8.out.types (.slice A8 ts2.length c8))
          have HS9 := Lib.hid (Spare.set (j := 2) HR8.out.blk (.slice A8 ts2.length c8))
          have HO9 := Lib.hid (HO8.out.spare HS9.out (by decide) (by decide))
          have HT9 := Lib.hid (HT8.out.put 2 (.slice A8 ts2.length c8))
          have HM9 : Hid (lenOf (((w8.setCell ⟨g, 2, none⟩ (.slice A8 ts2.length c8)).cell? ⟨g, 0, none⟩).getD undef) = l'.rest.rows.length) := Lib.hid (by rw [HR9.out.blk.cells 0]; rfl)
          cases W with
          | cons a t =>
            have hxl : x6.xs.length = t.length + 1 := by rw [← LnR.data_len, HX6.out]; rfl
            have c9 := (HR9.out.blk.cells 1).trans (show _ = some (Value.slice x6.a (t.length + 1) x6.c) by rw [← hxl]; rfl)
            have qt : ((((t.length + 1 : Nat) : Int)) == 0) = false := by simp; omega
            have HI : Hid (programQ l.data = none) := Lib.hid (by unfold programQ; rw [HTB.out.bad HHE.out (by show lineQ (kindQ r.rest.data) = none; rw [HOq.out]; rfl)])
            clear hxl
            go_wp2_with (go_at_call 60; refine (hno _).mono ?_; rintro e w5 ⟨rfl, rfl⟩)
            exact ⟨rfl, HT9.out, by rw [HI.out]⟩
          | nil =>
            have hxl : x6.xs.length = 0 := by rw [← LnR.data_len, HX6.out]; rfl
            have c9 := (HR9.out.blk.cells 1).trans (show _ = some (Value.slice x6.a 0 x6.c) by rw [← hxl]; rfl)
            have hkp : parts.length ≤ 20000 := by
             have h1 := kindQ_parts HOq.out
             rw [← HRT.out] at h1
             have h2 : r.rest.data.length = r.rest.xs.length := List.length_map ..
             have h3 := HFE.out
             have h4 : (TyR.data ⟨kd, el, mn, pa, pc, parts⟩).parts.length = parts.length := rfl
             omega
            have HKP := Lib.hid hkp
            clear hxl hkp
            go_wp2_with (go_at_call 60; refine (hyes _).mono ?_; rintro e w5 ⟨rfl, rfl⟩)
            go_roundw
            case rel => exact ⟨ts2, A8, c8, l'.rest, x6, HR9.out, HO9.out, by rw [← HTS.out, List.map_append]; exact HTB.out.step HHE.out (by show lineQ (kindQ r.rest.data) = _; rw [HOq.out, ← HRT.out]; rfl), HLO.out.rest, HT9.out, by rw [← HTS.out, List.length_append]; have h1 := HLN.out; have h3 := HLR.out; simp only [List.length_cons, List.length_nil]; omega, fun t ht => by
             rw [← HTS.out] at ht
             rcases List.mem_append.1 ht with ht | ht
             · exact HFW.out t ht
             · rw [List.mem_singleton.1 ht]; exact HKP.out⟩
            case measure => rw [HM9.out, HM0.out]; have h3 := HLR.out; omega
end
def wrongV : Value := .iface 49 (.agg #[])
set_option maxRecDepth 100000 in
theorem catch_wrong (P E : Nat) (w : World) {p0 p1 e0 : Value} {tp te : TypeId} (hP : Blk w P tp #[p0, p1]) (hE : Blk w E te #[e0]) (hne : E ≠ P) :
    CallsD Tryz.prog 24 #[.pointer (some ⟨P, 0, none⟩), .pointer (some ⟨E, 0, none⟩)] (.panicking [{ v := wrongV, recovered := false }]) w fun e u' w' =>
     e = .returned (.tuple #[]) ∧ u' = .panicking [{ v := wrongV, recovered := true }] ∧ Blk w' P tp #[.slice none 0 0, .slice none 0 0] ∧ Blk w' E te #[.int .i64 70] ∧ Below (min P E) w w' := by
 have hP1 := hP.alloc (.cells #[] 49)
 have hE1 := hE.alloc (.cells #[] 49)
 have HP1 := Lib.hid hP1
 have HE1 := Lib.hid hE1
 have p0' := hP1.cells 0
 have p1' := hP1.cells 1
 have e0' := hE1.cells 0
 have z0 := hP1.free 0
 have z1 := hP1.free 1
 have z2 := hE1.free 0
 have n1 : P ≠ E := fun e => hne e.symm
 have HPL := Lib.hid hP.lt
 have HEL := Lib.hid hE.lt
 clear hP hE hP1 hE1
 unfold wrongV
 refine callsD_of_wpS Tryz.func24 rfl fun c₀ cs hu => ?_
 apply wpS_seq
 apply wpS_region
 simp [wpOpsS, go_sem, recoverD, hu, Tryz.ntmps24, Exit.thenS]
 have hta : ∀ (t : TypeId) (w : World), (Instr.typeAssert (Value.iface 49 (Value.agg #[])) t 49 true).run Tryz.prog w = .ok (.tuple #[.agg #[], .bool true]) w := fun t w => by kernel_rfl
 refine wpS_of_wp ?_
 go_wp2_with fail
 have h1 : Blk ((((w.alloc (.cells #[] 49)).setCell ⟨P, 0, none⟩ (.slice none 0 0)).setCell ⟨P, 1, none⟩ (.slice none 0 0)).setCell ⟨E, 0, none⟩ (.int .i64 70)) P tp #[.slice none 0 0, .slice none 0 0] := ((HP1.out.put 0 (.slice none 0 0)).put 1 (.slice none 0 0)).far (p := ⟨E, 0, none⟩) n1 _
 have h2 : Blk ((((w.alloc (.cells #[] 49)).setCell ⟨P, 0, none⟩ (.slice none 0 0)).setCell ⟨P, 1, none⟩ (.slice none 0 0)).setCell ⟨E, 0, none⟩ (.int .i64 70)) E te #[.int .i64 70] := ((HE1.out.far (p := ⟨P, 0, none⟩) hne (.slice none 0 0)).far (p := ⟨P, 1, none⟩) hne (.slice none 0 0)).put 0 (.int .i64 70)
 have h3 : Below (min P E) w ((((w.alloc (.cells #[] 49)).setCell ⟨P, 0, none⟩ (.slice none 0 0)).setCell ⟨P, 1, none⟩ (.slice none 0 0)).setCell ⟨E, 0, none⟩ (.int .i64 70)) := ((((Below.refl _ _).alloc (by have := HPL.out; omega) _).setCell (by show min P E ≤ P; omega) _).setCell (by show min P E ≤ P; omega) _).setCell (by show min P E ≤ E; omega) _
 have H := Lib.hid (And.intro h1 (And.intro h2 h3))
 clear h1 h2 h3
 simp [bodyPostS, results, Tryz.results24]
 exact H.out
theorem catch_idle (P E : Addr) (w : World) :
    CallsD Tryz.prog 24 #[.pointer (some P), .pointer (some E)] .returning w fun e u' w' => e = .returned (.tuple #[]) ∧ u' = .returning ∧ w' = w := by
 refine callsD_of_wpS Tryz.func24 rfl fun c₀ cs hu => ?_
 apply wpS_seq
 apply wpS_region
 simp [wpOpsS, go_sem, recoverD, hu, Tryz.ntmps24, Exit.thenS]
 refine wpS_of_wp ?_
 go_wp2_with fail
 cases c₀
 simp_all [bodyPostS, results, Tryz.results24]
end Go.Proofs.YtbffebcjimhapaaGreatDoor
