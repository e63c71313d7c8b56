/-
  A block of a program's text. Plain words for the whole of a text: blocks, functions, types, the program. A function of a program's text. How much a text tells at most. The program of a text: its types, its functions. The deferred closure of Read: a panic that says 'wrong' is recovered. The reference's words for shapes: Count, Number, Where, Regs. The reference's words for shapes: Where, Regs, Place, Reg. The reference's words for shapes: Regs, Place, Reg.
-/
import Derived.Test.YtbffebcjimhapaaDoorMg16
import Derived.Recover
import Derived.OwnWalk
namespace Go.Proofs.YtbffebcjimhapaaDoor
set_option linter.unusedVariables false
set_option linter.unusedSimpArgs false
open Go.ChangeShapes Go.WideShapes Go.ChangeAt Go.RowKit

section
variable {g : Nat} {w : World} {l : LsR} {x : LnR} {tv fv : Value}
set_option maxRecDepth 100000 in
set_option maxHeartbeats 3200000 in
theorem rblock_any (h : Rdr w g l x tv fv) (hl : LOk l) (hT : TabW w) (reg : Int) (hr0 : 0 ≤ reg) (hr1 : reg ≤ 1000000000) :
    Calls Tryd.prog 55 #[.pointer (some ⟨g, 0, none⟩), .int .i64 reg] w (RdOutL w g tv fv (isBlk w.heap.size) (blockA l.data reg)) := by
  have HB0 := Lib.hid (Bx.new h 36 #[.slice none 0 0, .int .u8 0, .int .i64 0, .int .i64 0, .int .i64 0])
  have HBA := Lib.hid (HB0.out.on (w' := (w.alloc (.cells #[.slice none 0 0, .int .u8 0, .int .i64 0, .int .i64 0, .int .i64 0] 36)).alloc (.cells (endS.map Value.string).toArray 9)) ((Below.refl _ _).alloc (Nat.le_refl _) _))
  have HE0 := Lib.hid (Blk.new2 w (.cells #[.slice none 0 0, .int .u8 0, .int .i64 0, .int .i64 0, .int .i64 0] 36) 9 (endS.map Value.string).toArray)
  have hg0 := h.ne0 hT
  have HT := Lib.hid hT
  have HL := Lib.hid hl
  have hyes := need_yes
  have hno := need_no
  clear h hT hl
  go_enter Tryd.func55, Tryd.ntmps55
  go_wp2_with fail
  go_loopw [] (fun wr => ∃ (rows : List InR) (A : Option Addr) (c : Nat) (l' : LsR) (x' : LnR), Bx w wr g l' x' tv fv w.heap.size 36 #[.slice A rows.length c, .int .u8 0, .int .i64 0, .int .i64 0, .int .i64 0] ∧ OwnIns wr w.heap.size (.slice A rows.length c) rows ∧ Blk wr (w.heap.size + 1) 9 (endS.map Value.string).toArray ∧ BlockTo l.data reg (rows.map InR.data) l'.data ∧ LOk l' ∧ rows.length + l'.rows.length ≤ 20000) (fun wr => lenOf ((wr.cell? ⟨g, 0, none⟩).getD undef))
  case atStart => exact ⟨[], none, 0, l, x, HBA.out, OwnIns.nil _ _, HE0.out, BlockTo.start _ _, HL.out, by have := HL.out.len; simpa using this⟩
  case round =>
    obtain ⟨rows, A, c, l', x', hbx, hown, hes, hbt, hlo, hlen⟩ := hrel
    have HBX := Lib.hid hbx
    have HO := Lib.hid hown
    have HES := Lib.hid hes
    have HBT := Lib.hid hbt
    have HLO := Lib.hid hlo
    have HLN := Lib.hid hlen
    have HNX := Lib.hid (next_any hbx.rd)
    have hm0 : lenOf ((wr.cell? ⟨g, 0, none⟩).getD undef) = l'.rows.length := by rw [hbx.rd.blk.cells 0]; rfl
    have HM0 := Lib.hid hm0
    have HTW := Lib.hid (HT.out.tn hg0 hbx.tn)
    clear hbx hown hes hbt hlo hlen hm0
    cases hd : l'.rows with
    | nil =>
      rw [hd] at HNX
      have HI : Hid (blockA l.data reg = none) := Lib.hid (by
        have hb := HBT.out
        rw [show l'.data = [] by show l'.rows.map LnR.data = []; rw [hd]; rfl] at hb
        unfold blockA
        rw [hb.stop]
        rfl)
      clear hd
      go_wp2_with (first
        | (go_at_call 33; refine HNX.out.mono ?_; rintro e w1 ⟨rfl, rfl⟩)
        | (go_at_call 36; refine (hno _).mono ?_; rintro e w2 ⟨rfl, rfl⟩))
      exact ⟨rfl, HBX.out.tn, by rw [HI.out]⟩
    | cons r rest =>
      rw [hd] at HNX
      have HD := Lib.hid hd
      have hmem : r ∈ l'.rows := by rw [hd]; exact List.mem_cons_self ..
      obtain ⟨hr0', hfw⟩ := HLO.out.full r hmem
      have HFW := Lib.hid hfw
      have HFE := Lib.hid (HLO.out.few r hmem)
      have HDD : Hid (l'.data = r.data :: l'.rest.data) := Lib.hid (by show l'.rows.map LnR.data = r.data :: (l'.rows.drop 1).map LnR.data; rw [hd]; rfl)
      have HLR : Hid (l'.rest.rows.length + 1 = l'.rows.length) := Lib.hid (by show (l'.rows.drop 1).length + 1 = _; rw [hd]; rfl)
      clear hd hmem hfw
      cases hxs : r.xs with
      | nil => rw [hxs] at hr0'; exact absurd hr0' (Nat.lt_irrefl _)
      | cons s0 t0 =>
        have HXS := Lib.hid hxs
        have HHD : Hid (r.data.headD [] = toL s0) := Lib.hid (by show (r.xs.map toL).headD [] = _; rw [hxs]; rfl)
        clear hxs
        go_wp2_with (first
          | (go_at_call 33; refine HNX.out.mono ?_; rintro e w1 ⟨rfl, hr, ht⟩; have HB1 := Lib.hid (Bx.call HBX.out hr ht (by decide)); have hsp := ht.spare HBX.out.rd.blk; have HO1 := Lib.hid (OwnIns.spare HO.out hsp (by decide) (by decide)); have HES1 := Lib.hid (HES.out.spareOf hsp (by decide)); have HTW1 := Lib.hid (HTW.out.tn hg0 ht); clear hr ht hsp)
          | (go_at_call 36; refine (hyes _).mono ?_; rintro e w2 ⟨rfl, rfl⟩; refine pause ?_))
        obtain ⟨b, off, ha, hc⟩ := HB1.out.rd.words.first2 HXS.out
        have c1 : w2.cell? ⟨g, 1, none⟩ = some (.slice (some ⟨b, off, none⟩) r.xs.length r.c) := (HB1.out.rd.blk.cells 1).trans (by rw [ha]; rfl)
        have q1 : (0 : Int) < r.xs.length := by omega
        have HEND := Lib.hid (threeEnds_any (w := w2) (A := some ⟨w.heap.size + 1, 0, none⟩) ⟨by omega, by unfold maxLen; omega, fun h => by cases h⟩ (strs_new (xs := endS) HES1.out) s0)
        obtain ⟨b0, hb0⟩ : ∃ b0, isEndP (toL s0) = b0 := ⟨_, rfl⟩
        rw [hb0] at HEND
        have HB0' : Hid (isEndP (r.data.headD []) = b0) := Lib.hid (by rw [HHD.out]; exact hb0)
        clear ha hb0
        have k0 := HB1.out.blk.cells 0; have k1 := HB1.out.blk.cells 1; have k2 := HB1.out.blk.cells 2; have k3 := HB1.out.blk.cells 3; have k4 := HB1.out.blk.cells 4; have kz := HB1.out.blk.free
        refine resume ?_
        cases b0 with
        | true =>
          have HBE := Lib.hid ((show BlockTo l.data reg (rows.map InR.data) (r.data :: l'.rest.data) by rw [← HDD.out]; exact HBT.out).ends HB0'.out)
          have HRE := Lib.hid (rend_any HB1.out.rd)
          rcases endQ_some (W := r.data) with ⟨en, e1, e2⟩ | ⟨e1, e2⟩
          · have HI : Hid (blockA l.data reg = some (⟨rows.map InR.data, en⟩, l'.rest.data)) := Lib.hid (by unfold blockA; rw [HBE.out, e1]; rfl)
            rw [e2] at HRE
            clear e1 e2
            go_wp2_with (first
              | (go_at_call 75; refine HEND.out.mono ?_; rintro e w3 ⟨rfl, rfl⟩)
              | (go_at_call 76; refine HRE.out.mono ?_; rintro e w4 ⟨ht, v4, x4, rfl, hv, hx4, hr⟩; obtain ⟨rfl, hk4⟩ := hv; unfold PEnd.val; have HB4 := Lib.hid (Bx.call HB1.out hr ht (by decide)); have HO4 := Lib.hid (OwnIns.spare HO1.out (ht.spare HB1.out.rd.blk) (by decide) (by decide)); have HK4 := Lib.hid hk4; have HX4 := Lib.hid hx4; clear ht hr hx4 hk4; have m0 := HB4.out.blk.cells 0; have m1 := HB4.out.blk.cells 1; have m2 := HB4.out.blk.cells 2; have m3 := HB4.out.blk.cells 3; have m4 := HB4.out.blk.cells 4; have mz := HB4.out.blk.free; have HB5 := Lib.hid (Bx.end4 HB4.out (by decide) (by decide) (by decide) (.int .u8 en.kind) (.int .i64 en.a) (.int .i64 en.to) (.int .i64 en.els)); have n0 := HB5.out.blk.cells 0; have n1 := HB5.out.blk.cells 1; have n2 := HB5.out.blk.cells 2; have n3 := HB5.out.blk.cells 3; have n4 := HB5.out.blk.cells 4; have nz := HB5.out.blk.free; have hx0 : x4.xs.length = 0 := by { rw [← LnR.data_len, HX4.out]; rfl }; have c5 := (HB5.out.rd.blk.cells 1).trans (show _ = some (Value.slice x4.a 0 x4.c) by rw [← hx0]; rfl); clear hx0)
              | (go_at_call 36; refine (hyes _).mono ?_; rintro e w6 ⟨rfl, rfl⟩))
            have HB7 := Lib.hid (Bx.five HB5.out (by decide) (by decide) (by decide) (.slice A rows.length c) (.int .u8 en.kind) (.int .i64 en.a) (.int .i64 en.to) (.int .i64 en.els))
            have HO7 := Lib.hid (OwnIns.spare (OwnIns.spare HO4.out (spare_end4 HB4.out.blk (.int .u8 en.kind) (.int .i64 en.a) (.int .i64 en.to) (.int .i64 en.els)) (by decide) (by decide)) (spare_five HB5.out.blk (.slice A rows.length c) (.int .u8 en.kind) (.int .i64 en.a) (.int .i64 en.to) (.int .i64 en.els)) (by decide) (by decide))
            have q0 := HB7.out.blk.cells 0
            have q1 := HB7.out.blk.cells 1
            have q2 := HB7.out.blk.cells 2
            have q3 := HB7.out.blk.cells 3
            have q4 := HB7.out.blk.cells 4
            exact bodyPost_ret (v := BlR.val ⟨A, c, rows, en.kind, en.a, en.to, en.els⟩) (by simp [results, Tryd.results55, go_sem, BlR.val, q0, q1, q2, q3, q4]) rfl ⟨HB7.out.tn, by rw [HI.out]; exact ⟨_, l'.rest, x4, rfl, ⟨⟨A, c, rows, en.kind, en.a, en.to, en.els⟩, rfl, rfl, ⟨HK4.out, HO7.out⟩⟩, rfl, HLO.out.rest, HX4.out, HB7.out.rd⟩⟩
          · have HI : Hid (blockA l.data reg = none) := Lib.hid (by unfold blockA; rw [HBE.out, e1]; rfl)
            rcases e2 with e2 | ⟨en, a, t, e2⟩
            · rw [e2] at HRE
              clear e1 e2
              go_wp2_with (first
                | (go_at_call 75; refine HEND.out.mono ?_; rintro e w3 ⟨rfl, rfl⟩)
                | (go_at_call 76; refine HRE.out.mono ?_; rintro e w4 ⟨ht, rfl⟩; have HT4 := Lib.hid ht; clear ht))
              exact ⟨rfl, HB1.out.tn.trans HT4.out, by rw [HI.out]⟩
            · rw [e2] at HRE
              clear e1 e2
              go_wp2_with (first
                | (go_at_call 75; refine HEND.out.mono ?_; rintro e w3 ⟨rfl, rfl⟩)
                | (go_at_call 76; refine HRE.out.mono ?_; rintro e w4 ⟨ht, v4, x4, rfl, hv, hx4, hr⟩; obtain ⟨rfl, hk4⟩ := hv; unfold PEnd.val; have HB4 := Lib.hid (Bx.call HB1.out hr ht (by decide)); have HX4 := Lib.hid hx4; clear ht hr hx4 hk4; have m0 := HB4.out.blk.cells 0; have m1 := HB4.out.blk.cells 1; have m2 := HB4.out.blk.cells 2; have m3 := HB4.out.blk.cells 3; have m4 := HB4.out.blk.cells 4; have mz := HB4.out.blk.free; have HB5 := Lib.hid (Bx.end4 HB4.out (by decide) (by decide) (by decide) (.int .u8 en.kind) (.int .i64 en.a) (.int .i64 en.to) (.int .i64 en.els)); have hx0 : x4.xs.length = t.length + 1 := by { rw [← LnR.data_len, HX4.out]; rfl }; have c5 := (HB5.out.rd.blk.cells 1).trans (show _ = some (Value.slice x4.a (t.length + 1) x4.c) by rw [← hx0]; rfl); have qt : ((((t.length + 1 : Nat) : Int)) == 0) = false := by { simp; omega }; clear hx0)
                | (go_at_call 36; refine (hno _).mono ?_; rintro e w6 ⟨rfl, rfl⟩))
              exact ⟨rfl, HB5.out.tn, by rw [HI.out]⟩
        | false =>
          have HRI := Lib.hid (fun W (hb : Below w2.heap.size w2 W) => rins_any (HB1.out.rd.on hb) HFW.out (by rw [HXS.out]; exact List.cons_ne_nil _ _) HFE.out (HTW1.out.on hb) (reg + (rows.length : Int)))
          have hw64 : IntKind.i64.wrap (reg + (rows.length : Int)) = reg + (rows.length : Int) := IntWalk.i64_in _ (by have := HLN.out; omega)
          have HI0 : Hid (∀ (o : Option PIns), lineQ (insQ r.data (reg + (rows.length : Int))) = o → (o = none → blockA l.data reg = none) ∧ ∀ y, o = some y → BlockTo l.data reg (rows.map InR.data ++ [y]) l'.rest.data) := Lib.hid (fun o ho => by
            have hb := HBT.out
            rw [HDD.out] at hb
            have hm : (rows.length : Int) = ((rows.map InR.data).length : Int) := by rw [List.length_map]
            rw [hm] at ho
            refine ⟨fun h0 => ?_, fun y hy => ?_⟩
            · unfold blockA
              rw [hb.bad HB0'.out (by rw [ho, h0])]
              rfl
            · exact hb.step HB0'.out (by rw [ho, hy]))
          go_wp2_with (go_at_call 75; refine HEND.out.mono ?_; rintro e w3 ⟨rfl, rfl⟩)
          have HBd := Lib.hid (HB1.out.on ((Below.refl _ _).drew))
          have HOd := Lib.hid (HO1.out.keep ((Below.refl _ _).drew))
          have HESd := Lib.hid (HES1.out.beneath ((Below.refl _ _).drew))
          refine wp_region_T (fun w' => w'.cell? ⟨w.heap.size, 0, none⟩ = some (.slice A rows.length c)) 12 (by kernel_rfl) k0 (fun hHeld => ?_)
          refine wpAnyT_take (i := 0) (by kernel_rfl) (by decide) rfl (by kernel_rfl) (by kernel_rfl) (by kernel_rfl) (fun _ _ _ h => h) (Or.inl ⟨by rfl, by (intro w hSw; (try dsimp only at hSw); go_simp; (try with_reducible rfl))⟩) (by assumption) ?_; (try simp only [Act.put, List.setIfInBounds_toArray, List.set_cons_zero, List.set_cons_succ])
          refine wpAnyT_take (i := 1) (by kernel_rfl) (by decide) rfl (by kernel_rfl) (by kernel_rfl) (by kernel_rfl) (fun _ _ _ h => h) (Or.inl ⟨by rfl, by (intro w hSw; (try dsimp only at hSw); go_simp; (try with_reducible rfl))⟩) (by assumption) ?_; (try simp only [Act.put, List.setIfInBounds_toArray, List.set_cons_zero, List.set_cons_succ])
          refine wpAnyT_take (i := 2) (by kernel_rfl) (by decide) rfl (by kernel_rfl) (by kernel_rfl) (by kernel_rfl) (fun _ _ _ h => h) (Or.inl ⟨by rfl, by (intro w hSw; (try dsimp only at hSw); go_simp; (try with_reducible rfl))⟩) (by assumption) ?_; (try simp only [Act.put, List.setIfInBounds_toArray, List.set_cons_zero, List.set_cons_succ])
          refine wpAnyT_take (i := 3) (by kernel_rfl) (by decide) rfl (by kernel_rfl) (by kernel_rfl) (by kernel_rfl) (fun _ _ _ h => h) (Or.inl ⟨by rfl, by (intro w hSw; (try dsimp only at hSw); go_simp; (try with_reducible rfl))⟩) (by assumption) ?_; (try simp only [Act.put, List.setIfInBounds_toArray, List.set_cons_zero, List.set_cons_succ])
          refine wpAnyT_take (i := 4) (by kernel_rfl) (by decide) rfl (by kernel_rfl) (by kernel_rfl) (by kernel_rfl) (fun _ _ _ h => h) (Or.inl ⟨by rfl, by (intro w hSw; (try dsimp only at hSw); go_simp; (try with_reducible rfl))⟩) (by assumption) ?_; (try simp only [Act.put, List.setIfInBounds_toArray, List.set_cons_zero, List.set_cons_succ])
          refine wpAnyT_take (i := 5) (by kernel_rfl) (by decide) rfl (by kernel_rfl) (by kernel_rfl) (by kernel_rfl) (fun _ _ _ h => h) (Or.inl ⟨by rfl, by (intro w hSw; (try dsimp only at hSw); go_simp; (try with_reducible rfl))⟩) (by assumption) ?_; (try simp only [Act.put, List.setIfInBounds_toArray, List.set_cons_zero, List.set_cons_succ])
          refine wpAnyT_take (i := 6) (by kernel_rfl) (by decide) rfl (by kernel_rfl) (by kernel_rfl) (by kernel_rfl) (fun _ _ _ h => h) (Or.inl ⟨by rfl, by (intro w hSw; (try dsimp only at hSw); go_simp; (try with_reducible rfl))⟩) (by assumption) ?_; (try simp only [Act.put, List.setIfInBounds_toArray, List.set_cons_zero, List.set_cons_succ])
          refine wpAnyT_take (i := 7) (by kernel_rfl) (by decide) rfl (by kernel_rfl) (by kernel_rfl) (by kernel_rfl) (fun _ _ _ h => h) (Or.inl ⟨by rfl, by (intro w hSw; (try dsimp only at hSw); go_simp; (try with_reducible rfl))⟩) (by assumption) ?_; (try simp only [Act.put, List.setIfInBounds_toArray, List.set_cons_zero, List.set_cons_succ])
          refine wpAnyT_one (i := 8) (by kernel_rfl) rfl (fun K hK => ?_)
          go_simp
          refine (HRI.out _ ((Below.refl _ _).drew)).mono ?_
          rintro e w6 ⟨ht, hm⟩
          cases hq : insQ r.data (reg + (rows.length : Int)) with
          | none =>
            rw [hq] at hm
            have hm : e = giveUp := hm
            subst hm
            exact ⟨rfl, HBd.out.tn.trans ht, by rw [(HI0.out none (by rw [hq]; rfl)).1 rfl]⟩
          | some q =>
            obtain ⟨y, W⟩ := q
            rw [hq] at hm
            obtain ⟨v6, x6, rfl, ⟨ri, rfl, hri, hro⟩, hx6, hr6⟩ := hm
            have HB6 := Lib.hid (Bx.call HBd.out hr6 ht (by decide))
            have hsp := ht.spare HBd.out.rd.blk
            have HO6 := Lib.hid (OwnIns.spare HOd.out hsp (by decide) (by decide))
            have HES6 := Lib.hid (HESd.out.spareOf hsp (by decide))
            have HRO := Lib.hid (hro.more HBd.out.tn.size)
            have HRI2 := Lib.hid hri
            have HX6 := Lib.hid hx6
            have HQ := Lib.hid hq
            have i0 : w6.cell? ⟨w.heap.size, 0, none⟩ = some (.slice A rows.length c) := HB6.out.blk.cells 0
            clear ht hsp hr6 hro hri hx6 hq
            obtain ⟨op, ty, ra, rb, rn, aa, ac, args, fa, fc, froms⟩ := ri
            unfold InR.val
            dsimp only at *
            refine hK.out _ _ (fun _ => i0) (fun hH => ?_); clear hHeld hK K; have hHeld := hH (by decide); clear hH
            refine wpAnyT_one (i := 9) (by kernel_rfl) rfl (fun K hK => ?_)
            go_simp
            have HB7 := Lib.hid (HB6.out.on (w' := w6.alloc (.cells #[.int .u8 op, .int .i64 ty, .int .i64 ra, .int .i64 rb, .int .i64 rn, .slice aa args.length ac, .slice fa froms.length fc] 39)) ((Below.refl _ _).alloc (Nat.le_refl _) _))
            have HO7 := Lib.hid (HO6.out.keep (w' := w6.alloc (.cells #[.int .u8 op, .int .i64 ty, .int .i64 ra, .int .i64 rb, .int .i64 rn, .slice aa args.length ac, .slice fa froms.length fc] 39)) ((Below.refl _ _).alloc (Nat.le_refl _) _))
            have HES7 := Lib.hid (HES6.out.beneath (w' := w6.alloc (.cells #[.int .u8 op, .int .i64 ty, .int .i64 ra, .int .i64 rb, .int .i64 rn, .slice aa args.length ac, .slice fa froms.length fc] 39)) ((Below.refl _ _).alloc (Nat.le_refl _) _))
            have i0' : (w6.alloc (.cells #[.int .u8 op, .int .i64 ty, .int .i64 ra, .int .i64 rb, .int .i64 rn, .slice aa args.length ac, .slice fa froms.length fc] 39)).cell? ⟨w.heap.size, 0, none⟩ = some (.slice A rows.length c) := HB7.out.blk.cells 0
            refine hK.out _ _ (fun _ => i0') (fun hH => ?_); clear hHeld hK K; have hHeld := hH (by decide); clear hH
            refine wpAnyT_one (i := 10) (by kernel_rfl) rfl (fun K hK => ?_)
            refine step_appI rfl (.tmp 34) (.tmp 42) rfl w.heap.size _ rows ⟨op, ty, ra, rb, rn, aa, ac, args, fa, fc, froms⟩ (by rfl) HO7.out w6.heap.size (by rfl) (Blk.new w6 _ _) (HRO.out.keep ((Below.refl _ _).alloc (Nat.le_refl _) _)) HB7.out.tn.size (by have := HLN.out; omega) ?_
            rintro v8 w8 hoi8 hg8
            obtain ⟨rows2, hrows2⟩ : ∃ rows2, rows ++ [(⟨op, ty, ra, rb, rn, aa, ac, args, fa, fc, froms⟩ : InR)] = rows2 := ⟨_, rfl⟩
            rw [hrows2] at hoi8
            have HRS := Lib.hid hrows2
            have HB8 := Lib.hid (HB7.out.grown HO7.out.row hg8 (Nat.le_refl _) (by decide) (by decide) (by decide) (by decide))
            have HES8 := Lib.hid (HES7.out.spareOf (Spare.grown HO7.out.row hg8) (by decide))
            obtain ⟨A8, c8, rfl, _⟩ := hoi8.form
            have HO8 := Lib.hid hoi8
            have i8 : w8.cell? ⟨w.heap.size, 0, none⟩ = some (.slice A rows.length c) := HB8.out.blk.cells 0
            clear hoi8 hg8 hrows2
            try dsimp only
            refine hK.out _ _ (fun _ => i8) (fun hH => ?_); clear hHeld hK K; have hHeld := hH (by decide); clear hH
            refine wpAnyT_one (i := 11) (by kernel_rfl) rfl (fun K hK => ?_)
            go_simp
            refine hK.out _ _ (fun _ => i8) (fun hH => ?_); clear hHeld hK K; have hHeld := hH (by decide); clear hH
            refine wpAnyT_one (i := 12) (by kernel_rfl) rfl (fun K hK => ?_)
            have j8 := HB8.out.blk.free 0
            go_simp
            refine hK.out _ _ (fun e => absurd rfl e) (fun hH => ?_); refine wpAnyT_done (by kernel_rfl) ?_ _; clear hHeld hK K hH
            have HB9 := Lib.hid (HB8.out.put (by decide) (by decide) (by decide) 0 (.slice A8 rows2.length c8))
            have hs9 : Spare 36 w8 (w8.setCell ⟨w.heap.size, 0, none⟩ (.slice A8 rows2.length c8)) := Spare.set HB8.out.blk _
            have HO9 := Lib.hid (HO8.out.spare hs9 (by decide) (by decide))
            have HES9 := Lib.hid (HES8.out.spareOf hs9 (by decide))
            have HM9 : Hid (lenOf (((w8.setCell ⟨w.heap.size, 0, none⟩ (.slice A8 rows2.length c8)).cell? ⟨g, 0, none⟩).getD undef) = l'.rest.rows.length) := Lib.hid (by rw [HB9.out.rd.blk.cells 0]; rfl)
            clear hs9
            cases W with
            | cons a t =>
              have hxl : x6.xs.length = t.length + 1 := by rw [← LnR.data_len, HX6.out]; rfl
              have c9 := (HB9.out.rd.blk.cells 1).trans (show _ = some (Value.slice x6.a (t.length + 1) x6.c) by rw [← hxl]; rfl)
              have qt : ((((t.length + 1 : Nat) : Int)) == 0) = false := by simp; omega
              have HI : Hid (blockA l.data reg = none) := Lib.hid ((HI0.out none (by rw [HQ.out]; rfl)).1 rfl)
              clear hxl
              go_wp2_with (go_at_call 36; refine (hno _).mono ?_; rintro e w5 ⟨rfl, rfl⟩)
              exact ⟨rfl, HB9.out.tn, by rw [HI.out]⟩
            | nil =>
              have hxl : x6.xs.length = 0 := by rw [← LnR.data_len, HX6.out]; rfl
              have c9 := (HB9.out.rd.blk.cells 1).trans (show _ = some (Value.slice x6.a 0 x6.c) by rw [← hxl]; rfl)
              have HI := Lib.hid ((HI0.out (some y) (by rw [HQ.out]; rfl)).2 y rfl)
              clear hxl
              go_wp2_with (go_at_call 36; refine (hyes _).mono ?_; rintro e w5 ⟨rfl, rfl⟩)
              go_roundw
              case rel => exact ⟨rows2, A8, c8, l'.rest, x6, HB9.out, HO9.out, HES9.out, by rw [← HRS.out, List.map_append, show List.map InR.data [(⟨op, ty, ra, rb, rn, aa, ac, args, fa, fc, froms⟩ : InR)] = [y] from congrArg (fun z => [z]) HRI2.out]; exact HI.out, HLO.out.rest, by rw [← HRS.out, List.length_append]; have h1 := HLN.out; have h3 := HLR.out; simp only [List.length_cons, List.length_nil]; omega⟩
              case measure => rw [HM9.out, HM0.out]; have h3 := HLR.out; omega
end
end Go.Proofs.YtbffebcjimhapaaDoor
namespace Go.Proofs.YtbffebcjimhapaaDoor
set_option linter.unusedVariables false
set_option linter.unusedSimpArgs false
open Go.ChangeShapes Go.WideShapes Go.ChangeAt Go.RowKit

theorem blockQ_len : ∀ (L : List (List Bs)) (reg : Int) (q : List PIns × PEnd × List (List Bs)), blockQ L reg = some q → q.1.length + 1 + q.2.2.length = L.length
  | [], _, _, h => by cases h
  | l :: t, reg, q, h => by
    rw [blockQ_cons] at h
    split at h
    · obtain ⟨e, _, rfl⟩ := Option.map_eq_some_iff.1 h
      simp only [List.length_cons, List.length_nil]; omega
    · split at h
      · obtain ⟨q', hq', rfl⟩ := Option.map_eq_some_iff.1 h
        have := blockQ_len t _ q' hq'
        simp only [List.length_cons]; omega
      · cases h
/-- Blocks, and the lines behind. -/
def blocksQ : Nat → List (List Bs) → Int → Option (List PBlk × List (List Bs))
  | 0, l, _ => some ([], l)
  | f + 1, l, reg =>
    if isBlockP l then
      (if (l.headD []).length = 1 then
        (match blockQ (l.drop 1) reg with
          | some q => (blocksQ f q.2.2 (reg + q.1.length)).map fun z => (⟨q.1, q.2.1⟩ :: z.1, z.2)
          | none => none)
      else none)
    else some ([], l)
def blocksR (l : List (List Bs)) (reg : Int) : Option (List PBlk × List (List Bs)) := blocksQ l.length l reg
theorem blocksQ_fuel : ∀ (f f' : Nat) (L : List (List Bs)) (reg : Int), L.length ≤ f → L.length ≤ f' → blocksQ f L reg = blocksQ f' L reg
  | 0, 0, _, _, _, _ => rfl
  | 0, f' + 1, L, reg, h, _ => by
    have : L = [] := List.eq_nil_of_length_eq_zero (by omega)
    subst this
    rfl
  | f + 1, 0, L, reg, _, h => by
    have : L = [] := List.eq_nil_of_length_eq_zero (by omega)
    subst this
    rfl
  | f + 1, f' + 1, L, reg, h, h' => by
    unfold blocksQ
    cases hb : isBlockP L with
    | false => rfl
    | true =>
      rw [if_pos rfl, if_pos rfl]
      by_cases h1 : (L.headD []).length = 1
      · rw [if_pos h1, if_pos h1]
        cases hq : blockQ (L.drop 1) reg with
        | none => rfl
        | some q =>
          have hl := blockQ_len _ _ _ hq
          rw [List.length_drop] at hl
          dsimp only
          rw [blocksQ_fuel f f' q.2.2 _ (by omega) (by omega)]
      · rw [if_neg h1, if_neg h1]
theorem blocksR_eq (L : List (List Bs)) (reg : Int) : blocksR L reg = (if isBlockP L then
      (if (L.headD []).length = 1 then
        (match blockQ (L.drop 1) reg with
          | some q => (blocksR q.2.2 (reg + q.1.length)).map fun z => (⟨q.1, q.2.1⟩ :: z.1, z.2)
          | none => none)
      else none)
    else some ([], L)) := by
  unfold blocksR
  rw [blocksQ_fuel L.length (L.length + 1) L reg (Nat.le_refl _) (Nat.le_succ _)]
  show (if isBlockP L then _ else _) = _
  cases hb : isBlockP L with
  | false => rfl
  | true =>
    rw [if_pos rfl, if_pos rfl]
    by_cases h1 : (L.headD []).length = 1
    · rw [if_pos h1, if_pos h1]
      cases hq : blockQ (L.drop 1) reg with
      | none => rfl
      | some q =>
        have hl := blockQ_len _ _ _ hq
        rw [List.length_drop] at hl
        dsimp only
        rw [blocksQ_fuel L.length q.2.2.length q.2.2 _ (by omega) (Nat.le_refl _)]
    · rw [if_neg h1, if_neg h1]
theorem blocksR_len : ∀ (n : Nat) (L : List (List Bs)) (reg : Int) (z : List PBlk × List (List Bs)), L.length ≤ n → blocksR L reg = some z → z.2.length + (z.1.map fun b => b.ins.length + 2).sum = L.length
  | 0, L, reg, z, h, hz => by
    have : L = [] := List.eq_nil_of_length_eq_zero (by omega)
    subst this
    have hz : some ([], []) = some z := hz
    injection hz with hz
    subst hz
    rfl
  | n + 1, L, reg, z, h, hz => by
    rw [blocksR_eq] at hz
    split at hz
    · split at hz
      · split at hz
        · rename_i q hq
          obtain ⟨z', hz', rfl⟩ := Option.map_eq_some_iff.1 hz
          have hl := blockQ_len _ _ _ hq
          rw [List.length_drop] at hl
          have hL : 0 < L.length := by omega
          have := blocksR_len n _ _ z' (by omega) hz'
          simp only [List.map_cons, List.sum_cons]
          omega
        · cases hz
      · cases hz
    · injection hz with hz
      subst hz
      simp
/-- Blocks that are read so far, and what is left. -/
def BlocksTo (L : List (List Bs)) (reg : Int) (bs : List PBlk) (L' : List (List Bs)) (reg' : Int) : Prop := blocksR L reg = (blocksR L' reg').map fun z => (bs ++ z.1, z.2)
section
variable {L L' L2 : List (List Bs)} {reg reg' : Int} {bs : List PBlk}
theorem BlocksTo.start (L : List (List Bs)) (reg : Int) : BlocksTo L reg [] L reg := by
  unfold BlocksTo
  cases blocksR L reg with
  | none => rfl
  | some z => rfl
theorem BlocksTo.done (h : BlocksTo L reg bs L' reg') (hb : isBlockP L' = false) : blocksR L reg = some (bs, L') := by
  unfold BlocksTo at h
  rw [h, blocksR_eq L', hb]
  show some (bs ++ [], L') = _
  rw [List.append_nil]
theorem BlocksTo.bad1 (h : BlocksTo L reg bs L' reg') (hb : isBlockP L' = true) (h1 : ¬ (L'.headD []).length = 1) : blocksR L reg = none := by
  unfold BlocksTo at h
  rw [h, blocksR_eq L', hb, if_pos rfl, if_neg h1]
  rfl
theorem BlocksTo.bad2 (h : BlocksTo L reg bs L' reg') (hb : isBlockP L' = true) (hq : blockQ (L'.drop 1) reg' = none) : blocksR L reg = none := by
  unfold BlocksTo at h
  rw [h, blocksR_eq L', hb, if_pos rfl, hq]
  split <;> rfl
theorem BlocksTo.step (h : BlocksTo L reg bs L' reg') (hb : isBlockP L' = true) (h1 : (L'.headD []).length = 1) {xs : List PIns} {e : PEnd} (hq : blockQ (L'.drop 1) reg' = some (xs, e, L2)) : BlocksTo L reg (bs ++ [⟨xs, e⟩]) L2 (reg' + xs.length) := by
  unfold BlocksTo at h ⊢
  rw [h, blocksR_eq L', hb, if_pos rfl, if_pos h1, hq]
  dsimp only
  cases blocksR L2 (reg' + xs.length) with
  | none => rfl
  | some z =>
    show some (bs ++ ⟨xs, e⟩ :: z.1, z.2) = some (bs ++ [⟨xs, e⟩] ++ z.1, z.2)
    rw [List.append_assoc]
    rfl
end
/-- A function, behind its line's first word. -/
def functionQ (types : List Ty) (W : List Bs) (L : List (List Bs)) : Option (PFun × List (List Bs)) := match lineQ (markQ 116 W) with
  | some sig => (blocksR L (regOf types sig)).map fun z => (⟨sig, z.1⟩, z.2)
  | none => none
def funsQ : Nat → List Ty → List (List Bs) → Option (List PFun)
  | _, _, [] => some []
  | 0, _, _ :: _ => none
  | f + 1, types, l :: t => if l.headD [] = bFunc then (match functionQ types (l.drop 1) t with
      | some q => (funsQ f types q.2).map fun z => q.1 :: z
      | none => none) else none
def funsR (types : List Ty) (L : List (List Bs)) : Option (List PFun) := funsQ L.length types L
theorem functionQ_len {types : List Ty} {W : List Bs} {L : List (List Bs)} {q : PFun × List (List Bs)} (h : functionQ types W L = some q) : q.2.length + (q.1.blocks.map fun b => b.ins.length + 2).sum = L.length := by
  unfold functionQ at h
  split at h
  · obtain ⟨z, hz, rfl⟩ := Option.map_eq_some_iff.1 h
    exact blocksR_len _ _ _ _ (Nat.le_refl _) hz
  · cases h
theorem funsQ_fuel : ∀ (f f' : Nat) (types : List Ty) (L : List (List Bs)), L.length ≤ f → L.length ≤ f' → funsQ f types L = funsQ f' types L
  | f, f', types, [], _, _ => by cases f <;> cases f' <;> rfl
  | 0, _, _, _ :: _, h, _ => absurd h (by simp)
  | _ + 1, 0, _, _ :: _, _, h => absurd h (by simp)
  | f + 1, f' + 1, types, l :: t, h, h' => by
    unfold funsQ
    by_cases h1 : l.headD [] = bFunc
    · rw [if_pos h1, if_pos h1]
      cases hq : functionQ types (l.drop 1) t with
      | none => rfl
      | some q =>
        have hl := functionQ_len hq
        have e1 : (l :: t).length = t.length + 1 := rfl
        dsimp only
        rw [funsQ_fuel f f' types q.2 (by omega) (by omega)]
    · rw [if_neg h1, if_neg h1]
theorem funsR_nil (types : List Ty) : funsR types [] = some [] := rfl
theorem funsR_cons (types : List Ty) (l : List Bs) (t : List (List Bs)) : funsR types (l :: t) = (if l.headD [] = bFunc then (match functionQ types (l.drop 1) t with
      | some q => (funsR types q.2).map fun z => q.1 :: z
      | none => none) else none) := by
  unfold funsR
  show (if l.headD [] = bFunc then _ else _) = _
  by_cases h1 : l.headD [] = bFunc
  · rw [if_pos h1, if_pos h1]
    cases hq : functionQ types (l.drop 1) t with
    | none => rfl
    | some q =>
      have hl := functionQ_len hq
      dsimp only
      rw [funsQ_fuel t.length q.2.length types q.2 (by omega) (Nat.le_refl _)]
  · rw [if_neg h1, if_neg h1]
/-- Functions that are read so far, and what is left. -/
def FunsTo (types : List Ty) (L : List (List Bs)) (fs : List PFun) (L' : List (List Bs)) : Prop := funsR types L = (funsR types L').map fun z => fs ++ z
section
variable {L L' : List (List Bs)} {types : List Ty} {fs : List PFun} {l : List Bs}
theorem FunsTo.start (types : List Ty) (L : List (List Bs)) : FunsTo types L [] L := by
  unfold FunsTo
  cases funsR types L with
  | none => rfl
  | some z => rfl
theorem FunsTo.done (h : FunsTo types L fs []) : funsR types L = some fs := by
  unfold FunsTo at h
  rw [h]
  show some (fs ++ []) = _
  rw [List.append_nil]
theorem FunsTo.bad1 (h : FunsTo types L fs (l :: L')) (h1 : ¬ l.headD [] = bFunc) : funsR types L = none := by
  unfold FunsTo at h
  rw [h, funsR_cons, if_neg h1]
  rfl
theorem FunsTo.bad2 (h : FunsTo types L fs (l :: L')) (hq : functionQ types (l.drop 1) L' = none) : funsR types L = none := by
  unfold FunsTo at h
  rw [h, funsR_cons, hq]
  split <;> rfl
theorem FunsTo.step (h : FunsTo types L fs (l :: L')) (h1 : l.headD [] = bFunc) {q : PFun} {L2 : List (List Bs)} (hq : functionQ types (l.drop 1) L' = some (q, L2)) : FunsTo types L (fs ++ [q]) L2 := by
  unfold FunsTo at h ⊢
  rw [h, funsR_cons, if_pos h1, hq]
  dsimp only
  cases funsR types L2 with
  | none => rfl
  | some z =>
    show some (fs ++ q :: z) = some (fs ++ [q] ++ z)
    rw [List.append_assoc]
    rfl
end
/-- Types, and the lines behind. -/
def typesQ : List (List Bs) → Option (List Ty × List (List Bs))
  | [] => some ([], [])
  | l :: t => if l.headD [] = bType then (match lineQ (kindQ (l.drop 1)) with
      | some ty => (typesQ t).map fun q => (ty :: q.1, q.2)
      | none => none) else some ([], l :: t)
theorem typesQ_cons (l : List Bs) (t : List (List Bs)) : typesQ (l :: t) = (if l.headD [] = bType then (match lineQ (kindQ (l.drop 1)) with
      | some ty => (typesQ t).map fun q => (ty :: q.1, q.2)
      | none => none) else some ([], l :: t)) := rfl
def TypesTo (L : List (List Bs)) (ts : List Ty) (L' : List (List Bs)) : Prop := typesQ L = (typesQ L').map fun z => (ts ++ z.1, z.2)
section
variable {L L' : List (List Bs)} {ts : List Ty} {l : List Bs}
theorem TypesTo.start (L : List (List Bs)) : TypesTo L [] L := by
  unfold TypesTo
  cases typesQ L with
  | none => rfl
  | some z => rfl
theorem TypesTo.ends (h : TypesTo L ts []) : typesQ L = some (ts, []) := by
  unfold TypesTo at h
  rw [h]
  show some (ts ++ [], []) = _
  rw [List.append_nil]
theorem TypesTo.done (h : TypesTo L ts (l :: L')) (h1 : ¬ l.headD [] = bType) : typesQ L = some (ts, l :: L') := by
  unfold TypesTo at h
  rw [h, typesQ_cons, if_neg h1]
  show some (ts ++ [], l :: L') = _
  rw [List.append_nil]
theorem TypesTo.bad (h : TypesTo L ts (l :: L')) (h1 : l.headD [] = bType) (hq : lineQ (kindQ (l.drop 1)) = none) : typesQ L = none := by
  unfold TypesTo at h
  rw [h, typesQ_cons, if_pos h1, hq]
  rfl
theorem TypesTo.step (h : TypesTo L ts (l :: L')) (h1 : l.headD [] = bType) {ty : Ty} (hq : lineQ (kindQ (l.drop 1)) = some ty) : TypesTo L (ts ++ [ty]) L' := by
  unfold TypesTo at h ⊢
  rw [h, typesQ_cons, if_pos h1, hq]
  dsimp only
  cases typesQ L' with
  | none => rfl
  | some z =>
    show some (ts ++ ty :: z.1, z.2) = some (ts ++ [ty] ++ z.1, z.2)
    rw [List.append_assoc]
    rfl
end
theorem typesQ_len : ∀ (L : List (List Bs)) (z : List Ty × List (List Bs)), typesQ L = some z → z.1.length + z.2.length = L.length
  | [], z, h => by
    have h : some ([], []) = some z := h
    injection h with h
    subst h
    rfl
  | l :: t, z, h => by
    rw [typesQ_cons] at h
    split at h
    · split at h
      · obtain ⟨z', hz', rfl⟩ := Option.map_eq_some_iff.1 h
        have := typesQ_len t z' hz'
        simp only [List.length_cons]; omega
      · cases h
    · injection h with h
      subst h
      simp
/-- A program's text. -/
def programQ (L : List (List Bs)) : Option PProg := match typesQ L with
  | some z => (funsR z.1 z.2).map fun fs => ⟨z.1, fs⟩
  | none => none
/-- The program of a text, and the error. -/
def readA (s : Bs) : PProg × Int := match linesP s with
  | none => (noProg, 4)
  | some l => match programQ l with
    | none => (noProg, 70)
    | some p => if checkP p ≠ 0 then (noProg, checkP p) else (p, 0)
end Go.Proofs.YtbffebcjimhapaaDoor
namespace Go.Proofs.YtbffebcjimhapaaDoor
set_option linter.unusedVariables false
set_option linter.unusedSimpArgs false
open Go.ChangeShapes Go.WideShapes Go.ChangeAt Go.RowKit

def isFun (lo : Nat) (t : PFun) (v : Value) (w : World) : Prop := ∃ r : FuR, v = r.val ∧ r.data = t ∧ r.Own w lo
theorem numP_small {l : Bs} {n : Int} (h : smallP l = some n) : 0 ≤ n ∧ n ≤ 999 := by
  unfold smallP at h
  cases hm : numP l with
  | none => rw [hm] at h; cases h
  | some m =>
    rw [hm] at h
    dsimp only at h
    split at h
    · rename_i hc
      injection h with h
      subst h
      exact hc
    · cases h
theorem markP_num {l : Bs} {c : UInt8} {n : Int} (h : markP l c = some n) : 0 ≤ n ∧ n ≤ 999 := by
  cases l with
  | nil => cases h
  | cons d r =>
    have h : (if d = c then smallP r else none) = some n := h
    by_cases hc : d = c
    · rw [if_pos hc] at h
      exact numP_small h
    · rw [if_neg hc] at h
      cases h
theorem markQ_num {c : UInt8} {W W' : List Bs} {n : Int} (h : markQ c W = some (n, W')) : 0 ≤ n ∧ n ≤ 999 := by
  cases W with
  | nil => cases h
  | cons a r =>
    have h : (markP a c).map (fun n => (n, r)) = some (n, W') := h
    cases hm : markP a c with
    | none => rw [hm] at h; cases h
    | some k =>
      rw [hm] at h
      have e : k = n := congrArg Prod.fst (Option.some.inj h)
      subst e
      exact markP_num hm
theorem block_word {l : LsR} : (((l.rows.headD default).xs.headD ⟨#[]⟩).toList == [98, 108, 111, 99, 107]) = isBlockP l.data := by
  obtain ⟨A, c, rows⟩ := l
  cases rows with
  | nil =>
    show ((⟨#[]⟩ : ByteArray).toList == _) = false
    rw [ByteArray.toList_eq]
    rfl
  | cons r rest =>
    obtain ⟨A2, c2, xs⟩ := r
    cases xs with
    | nil =>
      show ((⟨#[]⟩ : ByteArray).toList == _) = (([] : Bs) == bBlock)
      rw [ByteArray.toList_eq]
      rfl
    | cons s t =>
      show (s.toList == _) = (toL s == bBlock)
      rw [ByteArray.toList_eq]
      rfl
theorem isBlock_cons {l : LsR} (h : isBlockP l.data = true) : ∃ r rest, l.rows = r :: rest := by
  obtain ⟨A, c, rows⟩ := l
  cases rows with
  | nil => cases h
  | cons r rest => exact ⟨r, rest, rfl⟩
theorem LsR.rest_data {l : LsR} {r : LnR} {rest : List LnR} (h : l.rows = r :: rest) : l.data = r.data :: l.rest.data ∧ l.rest.rows.length + 1 = l.rows.length := by
  constructor
  · show l.rows.map LnR.data = r.data :: (l.rows.drop 1).map LnR.data
    rw [h]; rfl
  · show (l.rows.drop 1).length + 1 = _
    rw [h]; rfl
section
variable {g B : Nat} {w0 w w' : World} {l : LsR} {x : LnR} {tv fv : Value} {t : TypeId} {cs : Array Value}
theorem Bx.more (h : Bx w0 w g l x tv fv B t cs) (t' : TypeId) (cs' : Array Value) : Bx w0 (w.alloc (.cells cs' t')) g l x tv fv w.heap.size t' cs' := ⟨Blk.new w t' cs', h.rd.on ((Below.refl _ _).alloc (Nat.le_refl _) _), h.tn.on ((Below.refl _ _).alloc (Nat.le_refl _) _), h.tn.size⟩
theorem Bx.grownB (h : Bx w0 w g l x tv fv B t cs) {lo : Nat} {v : Value} {rows : List BlR} (ho : OwnBls w lo v rows) (hg : w.grownBy w' v.ownBlock) (hlo : w0.heap.size ≤ lo) (h0 : t ≠ 36) : Bx w0 w' g l x tv fv B t cs := by
  have hs := Spare.grown ho.row hg
  exact ⟨hs.block _ _ _ _ h.blk h0, h.rd.spare hs (by decide) (by decide) (by decide), h.tn.grown hg (fun k hk => Nat.le_trans hlo (own_base ho.row k hk)), h.lo⟩
set_option maxRecDepth 100000 in
set_option maxHeartbeats 3200000 in
theorem rfunction_any (h : Rdr w g l x tv fv) (hl : LOk l) (hT : TabW w) {lo : Nat} {ta : Option Addr} {tc : Nat} {types : List TyR} (htv : tv = .slice ta types.length tc) (hty : OwnTys w lo (.slice ta types.length tc) types) (hfew : ∀ t ∈ types, t.parts.length ≤ 20000) :
    Calls Tryd.prog 37 #[.pointer (some ⟨g, 0, none⟩)] w (RdOutL w g tv fv (isFun w.heap.size) (functionQ (tbl types) x.data l.data)) := by
  subst htv
  have HBR := Lib.hid (Bx.new h 31 #[.int .i64 0, .slice none 0 0])
  have HM := Lib.hid (mark_any HBR.out.rd 116)
  rw [show ((116 : UInt8).toNat : Int) = 116 from rfl] at HM
  have hg0 := h.ne0 hT
  have HT := Lib.hid hT
  have HL := Lib.hid hl
  have HTY := Lib.hid (hty.keep (w' := w.alloc (.cells #[.int .i64 0, .slice none 0 0] 31)) ((Below.refl _ _).alloc (Nat.le_refl _) _))
  have HFW := Lib.hid hfew
  have hyes := need_yes
  have hno := need_no
  clear h hT hl hty hfew
  cases hq : markQ 116 x.data with
  | none =>
    have HI : Hid (functionQ (tbl types) x.data l.data = none) := Lib.hid (by unfold functionQ; rw [hq]; rfl)
    rw [hq] at HM
    clear hq
    go_enter Tryd.func37, Tryd.ntmps37
    go_wp2_with (go_at_call 52; refine HM.out.mono ?_; rintro e w2 ⟨ht, rfl⟩; have HT2 := Lib.hid ht; clear ht)
    exact ⟨rfl, HBR.out.tn.trans HT2.out, by rw [HI.out]⟩
  | some q =>
    obtain ⟨n, W⟩ := q
    obtain ⟨hn0, hn1⟩ := markQ_num hq
    obtain ⟨k, rfl⟩ : ∃ k : Nat, n = (k : Int) := ⟨n.toNat, by omega⟩
    rw [hq] at HM
    cases W with
    | cons a t =>
      have HI : Hid (functionQ (tbl types) x.data l.data = none) := Lib.hid (by unfold functionQ; rw [hq]; rfl)
      clear hq
      go_enter Tryd.func37, Tryd.ntmps37
      go_wp2_with (first
        | (go_at_call 52; refine HM.out.mono ?_; rintro e w1 ⟨ht, v2, x2, rfl, hv, hx2, hr⟩; have hv : v2 = .int .i64 (k : Int) := hv; subst hv; have HB1 := Lib.hid ((Bx.call HBR.out hr ht (by decide)).more 31 #[.int .i64 (k : Int), .slice none 0 0]); have hxl : x2.xs.length = t.length + 1 := by { rw [← LnR.data_len, hx2]; rfl }; have c1 := (HB1.out.rd.blk.cells 1).trans (show _ = some (Value.slice x2.a (t.length + 1) x2.c) by rw [← hxl]; rfl); have qt : ((((t.length + 1 : Nat) : Int)) == 0) = false := by { simp; omega }; clear ht hx2 hr hxl)
        | (go_at_call 36; refine (hno _).mono ?_; rintro e w3 ⟨rfl, rfl⟩))
      exact ⟨rfl, HB1.out.tn, by rw [HI.out]⟩
    | nil =>
      obtain ⟨r0, hr0⟩ : ∃ r0, regOf (tbl types) (k : Int) = r0 := ⟨_, rfl⟩
      have HI : Hid (functionQ (tbl types) x.data l.data = (blocksR l.data r0).map fun z => (⟨(k : Int), z.1⟩, z.2)) := Lib.hid (by unfold functionQ; rw [hq, ← hr0]; rfl)
      have HR0 : Hid (0 ≤ r0 ∧ r0 ≤ 20000) := Lib.hid (by
        rw [← hr0]
        unfold regOf
        split
        · rename_i hlt
          rw [tbl_len] at hlt
          have hk : (k : Int).toNat < types.length := by omega
          have := HFW.out _ (mem_getD (d := default) hk)
          unfold tbl
          rw [map_getD TyR.data types hk]
          show (0 : Int) ≤ ((types.getD (k : Int).toNat default).parts.length : Int) ∧ _
          exact ⟨by omega, by show ((types.getD (k : Int).toNat default).parts.length : Int) ≤ 20000; omega⟩
        · omega)
      clear hq
      go_enter Tryd.func37, Tryd.ntmps37
      go_upto_if 27 with (first
        | (go_at_call 52; refine HM.out.mono ?_; rintro e w1 ⟨ht, v2, x2, rfl, hv, hx2, hr⟩; have hv : v2 = .int .i64 (k : Int) := hv; subst hv; have HB0 := Lib.hid (Bx.call HBR.out hr ht (by decide)); have HTY1 := Lib.hid (HTY.out.spare (ht.spare HBR.out.rd.blk) (by decide) (by decide)); have HX2 := Lib.hid hx2; have HB1 := Lib.hid (HB0.out.more 31 #[.int .i64 (k : Int), .slice none 0 0]); have HTY2 := Lib.hid (HTY1.out.keep (w' := w1.alloc (.cells #[.int .i64 (k : Int), .slice none 0 0] 31)) ((Below.refl _ _).alloc (Nat.le_refl _) _)); have HRB := Lib.hid (HB0.out.blk.alloc (.cells #[.int .i64 (k : Int), .slice none 0 0] 31)); have hxl : x2.xs.length = 0 := by { rw [← LnR.data_len, hx2]; rfl }; have c1 := (HB1.out.rd.blk.cells 1).trans (show _ = some (Value.slice x2.a 0 x2.c) by rw [← hxl]; rfl); have c2 := HB1.out.rd.blk.cells 2; have f0 := HB1.out.blk.cells 0; have f1 := HB1.out.blk.cells 1; clear ht hx2 hr hxl)
        | (go_at_call 36; refine (hyes _).mono ?_; rintro e w3 ⟨rfl, rfl⟩))
      go_quiet (fail)
      obtain ⟨nd, hnd⟩ : ∃ nd, nd = nq := ⟨_, rfl⟩
      subst hnd
      have HB2 := Lib.hid (HB1.out.on (w' := (w1.alloc (.cells #[.int .i64 (k : Int), .slice none 0 0] 31)).drewN nd) (belowDrewN (Below.refl _ _) nd))
      have HRB2 := Lib.hid (HRB.out.drewN nd)
      have HTY3 := Lib.hid (HTY2.out.keep (w' := (w1.alloc (.cells #[.int .i64 (k : Int), .slice none 0 0] 31)).drewN nd) (belowDrewN (Below.refl _ _) nd))
      go_upto_if 27 with fail
      go_cut [4] (fun s4 wx => s4 = .int .i64 r0 ∧ Hid (Bx w wx g l x2 (.slice ta types.length tc) fv w1.heap.size 31 #[.int .i64 (k : Int), .slice none 0 0]) ∧ Hid (Blk wx w.heap.size 31 #[.int .i64 0, .slice none 0 0]) ∧ Hid (OwnTys wx lo (.slice ta types.length tc) types))
      case first =>
        by_cases hk : k < types.length
        · obtain ⟨A', c', e', hhdr, htyps⟩ := HTY2.out.form
          injection e' with e1 _ e3
          subst e1 e3
          obtain ⟨⟨b, off, rfl, hb, d0, d1, d2, d3⟩⟩ := htyps.elem hk
          have hr0' : r0 = ((types.getD k default).parts.length : Int) := by
            rw [← hr0]
            unfold regOf
            rw [tbl_len, if_pos (by omega)]
            unfold tbl
            rw [show (k : Int).toNat = k from rfl, map_getD TyR.data types hk]
            rfl
          generalize types.getD k default = tyk at *
          subst hr0'
          have hk0 : (0 : Int) ≤ (k : Int) := Int.natCast_nonneg _
          have hk1 : (k : Int) < (types.length : Int) := by omega
          go_wp2_with fail
          go_quiet (fail)
          go_wp2_with fail
          go_meet
          exact ⟨rfl, Lib.hid (HB2.out.on (belowDrewN (Below.refl _ _) nq)), Lib.hid (HRB2.out.drewN nq), Lib.hid (HTY3.out.keep (belowDrewN (Below.refl _ _) nq))⟩
        · have hr0' : r0 = 0 := by
            rw [← hr0]
            unfold regOf
            rw [tbl_len, if_neg (by omega)]
          subst hr0'
          go_wp2_with fail
          go_meet
          exact ⟨rfl, HB2, HRB2, HTY3⟩
      case rest =>
        obtain ⟨rfl, HBc, HRc, HTc⟩ := hcut
        obtain ⟨gF, hgF⟩ : ∃ gF, w1.heap.size = gF := ⟨_, rfl⟩
        have HGF : Hid (w.heap.size < gF) := Lib.hid (by rw [← hgF]; exact HB0.out.blk.lt)
        have HX2L : Hid (x2.data = []) := HX2
        rw [hgF] at HBc
        clear HB2 HRB2 HTY3 HB1 HTY2 HRB HTY1 HTY HBR c1 c2 f0 f1 HM hr0 HB0
        rw [hgF]
        clear hgF
        go_wp2_with fail
        go_loopw [4] (fun v wr => ∃ (bs : List BlR) (A : Option Addr) (c : Nat) (l' : LsR) (x' : LnR) (r : Int), v = .int .i64 r ∧ Bx w wr g l' x' (.slice ta types.length tc) fv gF 31 #[.int .i64 (k : Int), .slice A bs.length c] ∧ OwnBls wr w.heap.size (.slice A bs.length c) bs ∧ Blk wr w.heap.size 31 #[.int .i64 0, .slice none 0 0] ∧ BlocksTo l.data r0 (bs.map BlR.data) l'.data r ∧ LOk l' ∧ x'.data = [] ∧ (0 ≤ r ∧ r + l'.rows.length ≤ 40000) ∧ bs.length + l'.rows.length ≤ 20000) (fun _ wr => lenOf ((wr.cell? ⟨g, 0, none⟩).getD undef))
        case atStart => exact ⟨[], none, 0, l, x2, r0, rfl, HBc.out, OwnBls.nil _ _, HRc.out, BlocksTo.start _ _, HL.out, HX2L.out, ⟨HR0.out.1, by have := HR0.out.2; have := HL.out.len; omega⟩, by have := HL.out.len; simpa using this⟩
        case round =>
          obtain ⟨bs, A, c, l', x', r, rfl, hbx, hown, hrb, hto, hlo, hxd, ⟨hr1, hr2⟩, hlen⟩ := hrel
          have HBX := Lib.hid hbx
          have HO := Lib.hid hown
          have HRB := Lib.hid hrb
          have HTO := Lib.hid hto
          have HLO := Lib.hid hlo
          have HXD := Lib.hid hxd
          have HLN := Lib.hid hlen
          have HFI := Lib.hid (first_any hbx.rd hlo.full rfl)
          have HM0 : Hid (lenOf ((wr.cell? ⟨g, 0, none⟩).getD undef) = l'.rows.length) := Lib.hid (by rw [hbx.rd.blk.cells 0]; rfl)
          have HTW := Lib.hid (HT.out.tn hg0 hbx.tn)
          have tw := block_word (l := l')
          obtain ⟨s, hs⟩ : ∃ s, (l'.rows.headD default).xs.headD ⟨#[]⟩ = s := ⟨_, rfl⟩
          rw [hs] at HFI tw
          obtain ⟨b, hb⟩ : ∃ b, isBlockP l'.data = b := ⟨_, rfl⟩
          rw [hb] at tw
          have HBT := Lib.hid hb
          clear hbx hown hrb hto hlo hxd hlen hs hb
          cases b with
          | false =>
            have HI2 : Hid (functionQ (tbl types) x.data l.data = some (⟨(k : Int), bs.map BlR.data⟩, l'.data)) := Lib.hid (by rw [HI.out, HTO.out.done HBT.out]; rfl)
            have f0 := HBX.out.blk.cells 0
            have f1 := HBX.out.blk.cells 1
            have f2 := HRB.out.free 0
            have f3 := HRB.out.free 1
            have f4 := HRB.out.cells 0
            have f5 := HRB.out.cells 1
            go_wp2_with (go_at_call 32; refine HFI.out.mono ?_; rintro e w3 ⟨rfl, rfl⟩)
            have hk9 := (HRB.out.put 0 (.int .i64 (k : Int))).put 1 (.slice A bs.length c)
            have q0 := hk9.cells 0
            have q1 := hk9.cells 1
            have hne : gF ≠ w.heap.size := by have := HGF.out; omega
            have hsp : Spare 31 w3 ((w3.setCell ⟨w.heap.size, 0, none⟩ (.int .i64 (k : Int))).setCell ⟨w.heap.size, 1, none⟩ (.slice A bs.length c)) := (Spare.set HRB.out _).trans (Spare.set (HRB.out.put 0 _) _)
            have htn : Tn g w ((w3.setCell ⟨w.heap.size, 0, none⟩ (.int .i64 (k : Int))).setCell ⟨w.heap.size, 1, none⟩ (.slice A bs.length c)) := (HBX.out.tn.far (Nat.le_refl _) 0 _).far (Nat.le_refl _) 1 _
            exact bodyPost_ret (v := FuR.val ⟨(k : Int), A, c, bs⟩) (by simp [results, Tryd.results37, go_sem, FuR.val, q0, q1]) rfl ⟨htn, by rw [HI2.out]; exact ⟨_, l', x', rfl, ⟨⟨(k : Int), A, c, bs⟩, rfl, rfl, HO.out.spare hsp (by decide) (by decide) (by decide)⟩, rfl, HLO.out, HXD.out, HBX.out.rd.spare hsp (by decide) (by decide) (by decide)⟩⟩
          | true =>
            obtain ⟨r1, rest, hd⟩ := isBlock_cons HBT.out
            have HNX := Lib.hid (next_any HBX.out.rd)
            rw [hd] at HNX
            obtain ⟨hdd, hlr⟩ := LsR.rest_data hd
            have HDD := Lib.hid hdd
            have HLR := Lib.hid hlr
            have HDL : Hid (r1.data.length = r1.xs.length) := Lib.hid (List.length_map ..)
            clear hd hdd hlr
            by_cases h1 : r1.xs.length = 1
            · obtain ⟨o, ho⟩ : ∃ o, blockQ l'.rest.data r = o := ⟨_, rfl⟩
              have HH1 : Hid ((l'.data.headD []).length = 1) := Lib.hid (by rw [HDD.out]; show r1.data.length = 1; rw [HDL.out]; exact h1)
              have HOq : Hid (blockQ (l'.data.drop 1) r = o) := Lib.hid (by rw [HDD.out]; exact ho)
              have HOr := Lib.hid ho
              have hr3 : r ≤ 1000000000 := by omega
              have HZ1 := Lib.hid h1
              clear ho h1
              go_wp2_with (first
                | (go_at_call 32; refine HFI.out.mono ?_; rintro e w3 ⟨rfl, rfl⟩)
                | (go_at_call 33; refine HNX.out.mono ?_; rintro e w4 ⟨rfl, hr, ht⟩; have HB4 := Lib.hid (Bx.call HBX.out hr ht (by decide)); have hsp := ht.spare HBX.out.rd.blk; have HO4 := Lib.hid (OwnBls.spare HO.out hsp (by decide) (by decide) (by decide)); have HRB4 := Lib.hid (HRB.out.spareOf hsp (by decide)); have HTW4 := Lib.hid (HTW.out.tn hg0 ht); have c4 : w4.cell? ⟨g, 1, none⟩ = some (.slice r1.a r1.xs.length r1.c) := HB4.out.rd.blk.cells 1; rw [HZ1.out] at c4; clear hr ht hsp)
                | (go_at_call 36; refine (hyes _).mono ?_; rintro e w5 ⟨rfl, rfl⟩; refine pause ?_))
              have HBL := Lib.hid (rblock_any HB4.out.rd HLO.out.rest HTW4.out r hr1 hr3)
              have hbA : blockA l'.rest.data r = o.map fun q => (⟨q.1, q.2.1⟩, q.2.2) := by unfold blockA; rw [HOr.out]
              rw [hbA] at HBL
              clear hbA
              refine resume ?_
              cases o with
              | none =>
                have HI2 : Hid (functionQ (tbl types) x.data l.data = none) := Lib.hid (by rw [HI.out, HTO.out.bad2 HBT.out HOq.out]; rfl)
                go_wp2_with (go_at_call 55; refine HBL.out.mono ?_; rintro e w6 ⟨ht, rfl⟩; have HT6 := Lib.hid ht; clear ht)
                exact ⟨rfl, HB4.out.tn.trans HT6.out, by rw [HI2.out]⟩
              | some q =>
                obtain ⟨xs, en, L2⟩ := q
                have HTO2 := Lib.hid (HTO.out.step HBT.out HH1.out HOq.out)
                go_wp2_with (first
                  | (go_at_call 55; refine HBL.out.mono ?_; rintro e w6 ⟨ht, v6, l6, x6, rfl, ⟨rb, rfl, hrb, hro⟩, hl6, hlo6, hx6, hr6⟩; have HB6 := Lib.hid (Bx.call HB4.out hr6 ht (by decide)); have hsp := ht.spare HB4.out.rd.blk; have HO6 := Lib.hid (OwnBls.spare HO4.out hsp (by decide) (by decide) (by decide)); have HRB6 := Lib.hid (HRB4.out.spareOf hsp (by decide)); have HRO := Lib.hid (OwnIns.more hro.ins HB4.out.tn.size); have HRK := Lib.hid hro.kind; have HRD := Lib.hid hrb; have HL6 := Lib.hid hl6; have HLO6 := Lib.hid hlo6; have HX6 := Lib.hid hx6; clear ht hsp hr6 hro hrb hl6 hlo6 hx6; obtain ⟨ia, ic, ins, kd, ea, et, el⟩ := rb; unfold BlR.val; dsimp only at *; have HB7 := Lib.hid (HB6.out.on (w' := w6.alloc (.cells #[.slice ia ins.length ic, .int .u8 kd, .int .i64 ea, .int .i64 et, .int .i64 el] 36)) ((Below.refl _ _).alloc (Nat.le_refl _) _)); have f1 := HB7.out.blk.cells 1; refine pause ?_))
                have HHX : Hid (ins.map InR.data = xs ∧ (⟨kd, ea, et, el⟩ : PEnd) = en) := Lib.hid (by
                  have h : (⟨ins.map InR.data, ⟨kd, ea, et, el⟩⟩ : PBlk) = ⟨xs, en⟩ := HRD.out
                  injection h with h1 h2
                  exact ⟨h1, h2⟩)
                have HLE : Hid (ins.length + 1 + l6.rows.length = l'.rest.rows.length) := Lib.hid (by
                  have h1 := blockQ_len _ _ _ HOr.out
                  have h2 : l6.data.length = l6.rows.length := List.length_map ..
                  have h3 : l'.rest.data.length = l'.rest.rows.length := List.length_map ..
                  have h4 : (ins.map InR.data).length = ins.length := List.length_map ..
                  have h5 : l6.data = L2 := HL6.out
                  rw [h5] at h2
                  rw [HHX.out.1] at h4
                  dsimp only at h1
                  omega)
                have HO7 := Lib.hid (HO6.out.keep (w' := w6.alloc (.cells #[.slice ia ins.length ic, .int .u8 kd, .int .i64 ea, .int .i64 et, .int .i64 el] 36)) ((Below.refl _ _).alloc (Nat.le_refl _) _))
                have HRO7 := Lib.hid (HRO.out.keep (w' := w6.alloc (.cells #[.slice ia ins.length ic, .int .u8 kd, .int .i64 ea, .int .i64 et, .int .i64 el] 36)) ((Below.refl _ _).alloc (Nat.le_refl _) _))
                have HKB := Lib.hid (Blk.new w6 36 #[.slice ia ins.length ic, .int .u8 kd, .int .i64 ea, .int .i64 et, .int .i64 el])
                have k70 := HKB.out.cells 0
                have k71 := HKB.out.cells 1
                have k72 := HKB.out.cells 2
                have k73 := HKB.out.cells 3
                have k74 := HKB.out.cells 4
                obtain ⟨gB, hgB⟩ : ∃ gB, w6.heap.size = gB := ⟨_, rfl⟩
                have HGB := Lib.hid hgB
                have hnb : gF ≠ gB := by have := HB6.out.blk.lt; omega
                clear hgB
                refine resume ?_
                go_wp2_with (at_builtin; refine wpList_appBl rfl (.tmp 62) (.tmp 64) rfl w.heap.size _ bs ⟨ia, ic, ins, kd, ea, et, el⟩ rfl HO7.out (by rw [World.size_alloc]; rfl) ⟨HRK.out, HRO7.out⟩ (by have := HLN.out; omega) HB7.out.tn.size ?_; intro v8 w8 hown8 hg8; refine pause ?_)
                obtain ⟨bs2, hbs2⟩ : ∃ bs2, bs ++ [(⟨ia, ic, ins, kd, ea, et, el⟩ : BlR)] = bs2 := ⟨_, rfl⟩
                rw [hbs2] at hown8
                have HBS := Lib.hid hbs2
                obtain ⟨A8, c8, rfl, _⟩ := hown8.form
                have HO7b := Lib.hid (HO7.out.keep (w' := (w6.alloc (.cells #[.slice ia ins.length ic, .int .u8 kd, .int .i64 ea, .int .i64 et, .int .i64 el] 36)).alloc (.cells #[.slice ia ins.length ic, .int .u8 kd, .int .i64 ea, .int .i64 et, .int .i64 el] 36)) ((Below.refl _ _).alloc (Nat.le_refl _) _))
                have HB7b := Lib.hid (HB7.out.on (w' := (w6.alloc (.cells #[.slice ia ins.length ic, .int .u8 kd, .int .i64 ea, .int .i64 et, .int .i64 el] 36)).alloc (.cells #[.slice ia ins.length ic, .int .u8 kd, .int .i64 ea, .int .i64 et, .int .i64 el] 36)) ((Below.refl _ _).alloc (Nat.le_refl _) _))
                have HB8 := Lib.hid (HB7b.out.grownB HO7b.out hg8 (Nat.le_refl _) (by decide))
                have hs8 := Spare.grown HO7b.out.row hg8
                have HRB8 := Lib.hid (Blk.spareOf ((HRB6.out.alloc (.cells #[.slice ia ins.length ic, .int .u8 kd, .int .i64 ea, .int .i64 et, .int .i64 el] 36)).alloc (.cells #[.slice ia ins.length ic, .int .u8 kd, .int .i64 ea, .int .i64 et, .int .i64 el] 36)) hs8 (by decide))
                have HKB8 : Hid (Blk w8 gB 36 #[.slice ia ins.length ic, .int .u8 kd, .int .i64 ea, .int .i64 et, .int .i64 el]) := Lib.hid (by
                  rw [← HGB.out]
                  exact (HKB.out.alloc (.cells #[.slice ia ins.length ic, .int .u8 kd, .int .i64 ea, .int .i64 et, .int .i64 el] 36)).grown hg8 (fun e => by have := (HO6.out.row.lt _ e).2; omega))
                have HO8 := Lib.hid hown8
                have HB9 := Lib.hid (HB8.out.put (by decide) (by decide) (by decide) 1 (.slice A8 bs2.length c8))
                have hs9 : Spare 31 w8 (w8.setCell ⟨gF, 1, none⟩ (.slice A8 bs2.length c8)) := Spare.set HB8.out.blk _
                have HO9 := Lib.hid (HO8.out.spare hs9 (by decide) (by decide) (by decide))
                have HRB9 := Lib.hid (HRB8.out.far (p := ⟨gF, 1, none⟩) (by show w.heap.size ≠ gF; have := HGF.out; omega) (.slice A8 bs2.length c8))
                have HKB9 := Lib.hid (HKB8.out.far (p := ⟨gF, 1, none⟩) (by show gB ≠ gF; omega) (.slice A8 bs2.length c8))
                have k90 := HKB9.out.cells 0
                have f8 := HB8.out.blk.cells 1
                have f9 := HB8.out.blk.free 1
                have HM9 : Hid (lenOf (((w8.setCell ⟨gF, 1, none⟩ (.slice A8 bs2.length c8)).cell? ⟨g, 0, none⟩).getD undef) = l6.rows.length) := Lib.hid (by rw [HB9.out.rd.blk.cells 0]; rfl)
                have hwr : IntKind.i64.wrap (r + (ins.length : Int)) = r + (ins.length : Int) := IntWalk.i64_in _ (by have := HLE.out; have := HLR.out; omega)
                have HR2 := Lib.hid hr2
                clear hown8 hg8 hbs2 hs8 hs9 hr2
                rw [← HGB.out] at k90
                refine resume ?_
                go_wp2_with fail
                go_roundw
                case rel => exact ⟨bs2, A8, c8, l6, x6, r + (ins.length : Int), rfl, HB9.out, HO9.out, HRB9.out, by rw [← HBS.out, List.map_append, HL6.out, show (ins.length : Int) = (xs.length : Int) by rw [← HHX.out.1, List.length_map]]; rw [show List.map BlR.data [(⟨ia, ic, ins, kd, ea, et, el⟩ : BlR)] = [⟨xs, en⟩] from congrArg (fun z => [z]) HRD.out]; exact HTO2.out, HLO6.out, HX6.out, ⟨by omega, by have h1 := HLE.out; have h2 := HLR.out; have h3 := HR2.out; omega⟩, by rw [← HBS.out, List.length_append]; have h1 := HLE.out; have h2 := HLR.out; have h3 := HLN.out; simp only [List.length_cons, List.length_nil]; omega⟩
                case measure => rw [HM9.out, HM0.out]; have h1 := HLE.out; have h2 := HLR.out; omega
            · have HI2 : Hid (functionQ (tbl types) x.data l.data = none) := Lib.hid (by rw [HI.out, HTO.out.bad1 HBT.out (by rw [HDD.out]; show ¬ r1.data.length = 1; rw [HDL.out]; exact h1)]; rfl)
              have q1 : ((r1.xs.length : Int) == 1) = false := by simp; omega
              clear h1
              go_wp2_with (first
                | (go_at_call 32; refine HFI.out.mono ?_; rintro e w3 ⟨rfl, rfl⟩)
                | (go_at_call 33; refine HNX.out.mono ?_; rintro e w4 ⟨rfl, hr, ht⟩; have HB4 := Lib.hid (Bx.call HBX.out hr ht (by decide)); have c4 := HB4.out.rd.blk.cells 1; clear hr ht)
                | (go_at_call 36; refine (hno _).mono ?_; rintro e w5 ⟨rfl, rfl⟩))
              exact ⟨rfl, HB4.out.tn, by rw [HI2.out]⟩
end
end Go.Proofs.YtbffebcjimhapaaDoor
namespace Go.Proofs.YtbffebcjimhapaaDoor
set_option linter.unusedVariables false
set_option linter.unusedSimpArgs false
open Go.ChangeShapes Go.WideShapes Go.ChangeAt Go.RowKit

theorem marksP_len {c : UInt8} : ∀ (W : List Bs) (xs : List Int), marksP c W = some xs → xs.length = W.length
  | [], xs, h => by
    have h : some [] = some xs := h
    injection h with h
    subst h
    rfl
  | a :: t, xs, h => by
    unfold marksP at h
    cases hm : markP a c with
    | none => rw [hm] at h; cases h
    | some n =>
      rw [hm] at h
      dsimp only at h
      cases ht : marksP c t with
      | none => rw [ht] at h; cases h
      | some l =>
        rw [ht] at h
        injection h with h
        subst h
        have := marksP_len t l ht
        simp only [List.length_cons, this]
theorem marksQ_len {c : UInt8} {W W' : List Bs} {xs : List Int} (h : marksQ c W = some (xs, W')) : xs.length = W.length := by
  unfold marksQ at h
  obtain ⟨l, hl, e⟩ := Option.map_eq_some_iff.1 h
  injection e with e1 _
  subst e1
  exact marksP_len _ _ hl
theorem phiP_len : ∀ (n : Nat) (W : List Bs) (q : List Int × List Int), W.length ≤ n → phiP W = some q → q.1.length ≤ W.length ∧ q.2.length ≤ W.length
  | _, [], q, _, h => by
    have h : some ([], []) = some q := h
    injection h with h
    subst h
    exact ⟨Nat.le_refl _, Nat.le_refl _⟩
  | _, [_], _, _, h => by cases h
  | 0, _ :: _ :: _, _, h, _ => absurd h (by simp)
  | n + 1, b :: r :: t, q, hn, h => by
    rw [phiP_two] at h
    cases h1 : markP b 98 with
    | none => rw [h1] at h; cases h
    | some x =>
      cases h2 : markP r 114 with
      | none => rw [h1, h2] at h; cases h
      | some y =>
        cases h3 : phiP t with
        | none => rw [h1, h2, h3] at h; cases h
        | some z =>
          rw [h1, h2, h3] at h
          injection h with h
          subst h
          have := phiP_len n t z (by simp only [List.length_cons] at hn; omega) h3
          simp only [List.length_cons]
          omega
theorem kindQ_parts {W W' : List Bs} {ty : Ty} (h : kindQ W = some (ty, W')) : ty.parts.length ≤ W.length := by
  cases W with
  | nil => cases h
  | cons k r =>
    rw [kindQ_cons] at h
    split at h
    · injection h with h; injection h with h _; subst h; exact Nat.zero_le _
    split at h
    · obtain ⟨q, _, e⟩ := Option.map_eq_some_iff.1 h
      injection e with e _; subst e; exact Nat.zero_le _
    split at h
    · cases hq : markQ 116 r with
      | none => rw [hq] at h; cases h
      | some q =>
        rw [hq] at h
        obtain ⟨q', hq', e⟩ := Option.map_eq_some_iff.1 h
        injection e with e _; subst e
        have h1 := markQ_len hq
        have h2 := marksQ_len hq'
        show q'.1.length ≤ r.length + 1
        omega
    split at h
    · obtain ⟨q, hq, e⟩ := Option.map_eq_some_iff.1 h
      injection e with e _; subst e
      have h2 := marksQ_len hq
      show q.1.length ≤ r.length + 1
      omega
    split at h
    · cases hq : markQ 116 r with
      | none => rw [hq] at h; cases h
      | some q =>
        rw [hq] at h
        obtain ⟨q', hq', e⟩ := Option.map_eq_some_iff.1 h
        injection e with e _; subst e; exact Nat.zero_le _
    · cases h
theorem argQ_lens {op : Nat} {ty a b n : Int} {W W' : List Bs} {x : PIns} (h : argQ op ty a b n W = some (x, W')) : x.args.length ≤ W.length ∧ x.from_.length ≤ W.length := by
  unfold argQ at h
  split at h
  · obtain ⟨q, hq, e⟩ := Option.map_eq_some_iff.1 h
    injection e with e _; subst e
    have h2 := marksQ_len hq
    exact ⟨by show q.1.length ≤ _; omega, Nat.zero_le _⟩
  split at h
  · obtain ⟨q, hq, e⟩ := Option.map_eq_some_iff.1 h
    injection e with e _; subst e
    have h2 := phiP_len _ _ _ (Nat.le_refl _) hq
    exact ⟨h2.2, h2.1⟩
  · injection h with h; injection h with h _; subst h; exact ⟨Nat.zero_le _, Nat.zero_le _⟩
theorem numQ_lens {op : Nat} {ty a b : Int} {W W' : List Bs} {x : PIns} (h : numQ op ty a b W = some (x, W')) : x.args.length ≤ W.length ∧ x.from_.length ≤ W.length := by
  unfold numQ at h
  cases hq : numberQ op W with
  | none => rw [hq] at h; cases h
  | some q =>
    rw [hq] at h
    have h1 := numberQ_len hq
    have h2 := argQ_lens h
    omega
theorem bodyQ_lens {op : Nat} {ty : Int} {W W' : List Bs} {x : PIns} (h : bodyQ op ty W = some (x, W')) : x.args.length ≤ W.length ∧ x.from_.length ≤ W.length := by
  unfold bodyQ at h
  cases hq : regQ op W with
  | none => rw [hq] at h; cases h
  | some q =>
    rw [hq] at h
    have h2 := numQ_lens h
    have h1 : q.2.2.length ≤ W.length := by
      unfold regQ at hq
      split at hq
      · cases h3 : markQ 114 W with
        | none => rw [h3] at hq; cases hq
        | some z =>
          rw [h3] at hq
          obtain ⟨z', hz', e⟩ := Option.map_eq_some_iff.1 hq
          subst e
          have h4 := markQ_len h3
          have h5 := markQ_len hz'
          show z'.2.length ≤ _
          omega
      split at hq
      · obtain ⟨z', hz', e⟩ := Option.map_eq_some_iff.1 hq
        subst e
        have h5 := markQ_len hz'
        show z'.2.length ≤ _
        omega
      · injection hq with e; subst e; exact Nat.le_refl _
    omega
theorem opQ_lens {ans : Bool} {ty : Int} {W W' : List Bs} {x : PIns} (h : opQ ans ty W = some (x, W')) : x.args.length ≤ W.length ∧ x.from_.length ≤ W.length := by
  cases W with
  | nil => cases h
  | cons o r =>
    by_cases hc : opP o ≠ 0 ∧ hasT (opP o) 5 = ans
    · rw [opQ_yes hc] at h
      have := bodyQ_lens h
      simp only [List.length_cons]
      omega
    · rw [opQ_no hc] at h
      cases h
theorem insQ_lens {W W' : List Bs} {reg : Int} {x : PIns} (h : insQ W reg = some (x, W')) : x.args.length ≤ W.length ∧ x.from_.length ≤ W.length := by
  unfold insQ at h
  split at h
  · cases h1 : markQ 114 W with
    | none => rw [h1] at h; cases h
    | some q =>
      rw [h1] at h
      dsimp only at h
      split at h
      · cases h2 : markQ 116 q.2 with
        | none => rw [h2] at h; cases h
        | some q' =>
          rw [h2] at h
          have h3 := opQ_lens h
          have h4 := markQ_len h1
          have h5 := markQ_len h2
          rw [List.length_drop] at h3
          omega
      · cases h
  · exact opQ_lens h
theorem lineQ_some {α : Type} {o : Option (α × List Bs)} {a : α} (h : lineQ o = some a) : o = some (a, []) := by
  cases o with
  | none => cases h
  | some q =>
    obtain ⟨b, t⟩ := q
    cases t with
    | nil => injection h with h; subst h; rfl
    | cons c t => cases h
/-- Instructions that lists may hold. -/
def InsFew (xs : List PIns) : Prop := ∀ x ∈ xs, x.args.length ≤ 64 ∧ x.from_.length ≤ 64
def Few64 (L : List (List Bs)) : Prop := ∀ ws ∈ L, ws.length ≤ 64
theorem blockQ_few : ∀ (L : List (List Bs)) (reg : Int) (q : List PIns × PEnd × List (List Bs)), Few64 L → blockQ L reg = some q → InsFew q.1 ∧ Few64 q.2.2
  | [], _, _, _, h => by cases h
  | l :: t, reg, q, hL, h => by
    have ht : Few64 t := fun ws hw => hL ws (List.mem_cons_of_mem _ hw)
    rw [blockQ_cons] at h
    split at h
    · obtain ⟨e, _, rfl⟩ := Option.map_eq_some_iff.1 h
      exact ⟨fun x hx => (by cases hx), ht⟩
    · split at h
      · rename_i x hx
        obtain ⟨q', hq', rfl⟩ := Option.map_eq_some_iff.1 h
        obtain ⟨h1, h2⟩ := blockQ_few t _ q' ht hq'
        have h3 := insQ_lens (lineQ_some hx)
        have h4 := hL l (List.mem_cons_self ..)
        refine ⟨fun y hy => ?_, h2⟩
        rcases List.mem_cons.1 hy with rfl | hy
        · omega
        · exact h1 y hy
      · cases h
def BlsFew (bs : List PBlk) : Prop := ∀ b ∈ bs, InsFew b.ins
theorem blocksR_few : ∀ (n : Nat) (L : List (List Bs)) (reg : Int) (z : List PBlk × List (List Bs)), L.length ≤ n → Few64 L → blocksR L reg = some z → BlsFew z.1 ∧ Few64 z.2
  | 0, L, reg, z, h, hL, hz => by
    have : L = [] := List.eq_nil_of_length_eq_zero (by omega)
    subst this
    have hz : some ([], []) = some z := hz
    injection hz with hz
    subst hz
    exact ⟨fun b hb => (by cases hb), hL⟩
  | n + 1, L, reg, z, h, hL, hz => by
    rw [blocksR_eq] at hz
    split at hz
    · split at hz
      · split at hz
        · rename_i q hq
          obtain ⟨z', hz', rfl⟩ := Option.map_eq_some_iff.1 hz
          have hl := blockQ_len _ _ _ hq
          rw [List.length_drop] at hl
          obtain ⟨h1, h2⟩ := blockQ_few _ _ _ (fun ws hw => hL ws (List.mem_of_mem_drop hw)) hq
          obtain ⟨h3, h4⟩ := blocksR_few n _ _ z' (by omega) h2 hz'
          refine ⟨fun b hb => ?_, h4⟩
          rcases List.mem_cons.1 hb with rfl | hb
          · exact h1
          · exact h3 b hb
        · cases hz
      · cases hz
    · injection hz with hz
      subst hz
      exact ⟨fun b hb => (by cases hb), hL⟩
def FuFew (n : Nat) (f : PFun) : Prop := f.blocks.length ≤ n ∧ BlsFew f.blocks ∧ ∀ b ∈ f.blocks, b.ins.length ≤ n
theorem sum_mem {l : List Nat} {a : Nat} (h : a ∈ l) : a ≤ l.sum := by
  induction l with
  | nil => cases h
  | cons b t ih =>
    rw [List.sum_cons]
    rcases List.mem_cons.1 h with rfl | h
    · omega
    · have := ih h; omega
theorem sum_len {α : Type} (f : α → Nat) (hf : ∀ a, 1 ≤ f a) (l : List α) : l.length ≤ (l.map f).sum := by
  induction l with
  | nil => exact Nat.le_refl _
  | cons b t ih =>
    rw [List.map_cons, List.sum_cons, List.length_cons]
    have := hf b
    omega
theorem functionQ_few {types : List Ty} {W : List Bs} {L : List (List Bs)} {q : PFun × List (List Bs)} (hL : Few64 L) (h : functionQ types W L = some q) : FuFew L.length q.1 ∧ Few64 q.2 ∧ q.2.length ≤ L.length := by
  have hl := functionQ_len h
  unfold functionQ at h
  split at h
  · obtain ⟨z, hz, rfl⟩ := Option.map_eq_some_iff.1 h
    obtain ⟨h1, h2⟩ := blocksR_few _ _ _ _ (Nat.le_refl _) hL hz
    refine ⟨⟨?_, h1, fun b hb => ?_⟩, h2, by show z.2.length ≤ _; dsimp only at hl; omega⟩
    · have := sum_len (fun b : PBlk => b.ins.length + 2) (fun b => by omega) z.1
      dsimp only at hl ⊢
      omega
    · have := sum_mem (List.mem_map_of_mem (f := fun b : PBlk => b.ins.length + 2) hb)
      dsimp only at hl this ⊢
      omega
  · cases h
theorem FuFew.more {n m : Nat} {f : PFun} (h : FuFew n f) (hn : n ≤ m) : FuFew m f := ⟨Nat.le_trans h.1 hn, h.2.1, fun b hb => Nat.le_trans (h.2.2 b hb) hn⟩
theorem funsR_few : ∀ (n : Nat) (types : List Ty) (L : List (List Bs)) (fs : List PFun), L.length ≤ n → Few64 L → funsR types L = some fs → fs.length ≤ L.length ∧ ∀ f ∈ fs, FuFew L.length f
  | _, types, [], fs, _, _, h => by
    have h : some [] = some fs := h
    injection h with h
    subst h
    exact ⟨Nat.le_refl _, fun f hf => by cases hf⟩
  | 0, _, _ :: _, _, h, _, _ => absurd h (by simp)
  | n + 1, types, l :: t, fs, hn, hL, h => by
    rw [funsR_cons] at h
    split at h
    · split at h
      · rename_i q hq
        obtain ⟨z, hz, rfl⟩ := Option.map_eq_some_iff.1 h
        obtain ⟨h1, h2, h3⟩ := functionQ_few (fun ws hw => hL ws (List.mem_cons_of_mem _ hw)) hq
        simp only [List.length_cons] at hn ⊢
        obtain ⟨h4, h5⟩ := funsR_few n types q.2 z (by omega) h2 hz
        refine ⟨by omega, fun f hf => ?_⟩
        rcases List.mem_cons.1 hf with rfl | hf
        · exact h1.more (by omega)
        · exact (h5 f hf).more (by omega)
      · cases h
    · cases h
theorem typesQ_few : ∀ (L : List (List Bs)) (z : List Ty × List (List Bs)), Few64 L → typesQ L = some z → (∀ t ∈ z.1, t.parts.length ≤ 64) ∧ Few64 z.2
  | [], z, hL, h => by
    have h : some ([], []) = some z := h
    injection h with h
    subst h
    exact ⟨fun t ht => (by cases ht), hL⟩
  | l :: t, z, hL, h => by
    rw [typesQ_cons] at h
    split at h
    · split at h
      · rename_i ty hty
        obtain ⟨z', hz', rfl⟩ := Option.map_eq_some_iff.1 h
        obtain ⟨h1, h2⟩ := typesQ_few t z' (fun ws hw => hL ws (List.mem_cons_of_mem _ hw)) hz'
        have h3 := kindQ_parts (lineQ_some hty)
        have h4 := hL l (List.mem_cons_self ..)
        rw [List.length_drop] at h3
        refine ⟨fun y hy => ?_, h2⟩
        rcases List.mem_cons.1 hy with rfl | hy
        · omega
        · exact h1 y hy
      · cases h
    · injection h with h
      subst h
      exact ⟨fun t ht => (by cases ht), hL⟩
/-- What a program holds at most. -/
structure PLim (n : Nat) (p : PProg) : Prop where
  types : p.types.length ≤ n
  parts : ∀ t ∈ p.types, t.parts.length ≤ 64
  many : p.funs.length ≤ n
  funs : ∀ f ∈ p.funs, FuFew n f
theorem programQ_few {L : List (List Bs)} {p : PProg} (hL : Few64 L) (h : programQ L = some p) : PLim L.length p := by
  unfold programQ at h
  split at h
  · rename_i z hz
    obtain ⟨fs, hfs, rfl⟩ := Option.map_eq_some_iff.1 h
    obtain ⟨h1, h2⟩ := typesQ_few L z hL hz
    have h3 := typesQ_len L z hz
    obtain ⟨h4, h5⟩ := funsR_few _ _ _ _ (Nat.le_refl _) h2 hfs
    exact ⟨by show z.1.length ≤ _; omega, h1, by show fs.length ≤ _; omega, fun f hf => (h5 f hf).more (by omega)⟩
  · cases h
theorem PLim.prog {n : Nat} {r : PrR} (h : PLim n r.data) (hn : n ≤ 20000) : PrLim r := by
  have hf : ∀ f ∈ r.funs, FuFew n f.data := fun f hf => h.funs _ (List.mem_map_of_mem (f := FuR.data) hf)
  refine ⟨fun t ht => ?_, fun f hfm => ?_, ?_⟩
  · have := h.parts _ (List.mem_map_of_mem (f := TyR.data) ht)
    have e : (TyR.data t).parts.length = t.parts.length := rfl
    omega
  · obtain ⟨h1, h2, h3⟩ := hf f hfm
    have e : f.data.blocks.length = f.blocks.length := List.length_map ..
    refine ⟨by omega, fun b hb => ?_, fun b hb x hx => ?_, fun b hb x hx => ?_⟩
    · have := h3 _ (List.mem_map_of_mem (f := BlR.data) hb)
      have e2 : (BlR.data b).ins.length = b.ins.length := List.length_map ..
      omega
    · have := (h2 _ (List.mem_map_of_mem (f := BlR.data) hb) _ (List.mem_map_of_mem (f := InR.data) hx)).1
      have e2 : (InR.data x).args.length = x.args.length := rfl
      omega
    · have := (h2 _ (List.mem_map_of_mem (f := BlR.data) hb) _ (List.mem_map_of_mem (f := InR.data) hx)).2
      have e2 : (InR.data x).from_.length = x.from_.length := rfl
      omega
  · have := h.many
    have e : r.data.funs.length = r.funs.length := List.length_map ..
    omega
end Go.Proofs.YtbffebcjimhapaaDoor
namespace Go.Proofs.YtbffebcjimhapaaDoor
set_option linter.unusedVariables false
set_option linter.unusedSimpArgs false
open Go.ChangeShapes Go.WideShapes Go.ChangeAt Go.RowKit

set_option maxRecDepth 100000 in
/-- append of a type, laid somewhere, as one step of a drawn region. -/
theorem step_appTy {w : World} {ops : Array Oper} {o : Oper} {a : Act} {K : Act → World → Prop} {Q : Exit → Act → World → Prop} {E : Prop} (hgd : o.guard = none) (s x : Operand)
    (ho : o.op = .call { callee := .builtin .append, args := #[s, x], argTypes := #[22, 22] })
    (lo : Nat) (v : Value) (rows : List TyR) (r : TyR) (hs : a.eval s = v) (hown : OwnTys w lo v rows) (B : Nat) (hx : a.eval x = .slice (some ⟨B, 0, none⟩) 1 1)
    (hB : Blk w B 41 #[.int .u8 r.kind, .int .i64 r.elem, .int .i64 r.many, .slice r.pa r.parts.length r.pc]) (hr : OwnInts w lo (.slice r.pa r.parts.length r.pc) r.parts) (hk : r.kind ≤ 255) (hlo : lo ≤ w.heap.size) (hlen : rows.length ≤ 1000000)
    (h : ∀ v' w', OwnTys w' lo v' (rows ++ [r]) → w.grownBy w' v.ownBlock → K (a.put o.dst v') w') :
    if Region.wanted o (yielded ops a.tmps) = true then Oper.wp Tryd.prog o a w K Q else E := by
  obtain ⟨i0, hi, hz0, hz1, hz2⟩ := info_parts typeInfo
  refine step_append_lies (P := Tryd.prog) w hgd s x 22 ho lo 41 i0 _ 4 48 Tryd.underlying22 hi hz0 hz1 hz2 rfl (by decide) v rows.length _ hs hown.row ⟨B, 0, none⟩ 1 1 r.cells4 hx rfl (World.news_of_block hB) ?_ (by omega) ?_ ?_ hlo _ rfl ?_
  · intro u hu
    simp only [TyR.cells4, List.mem_cons, List.not_mem_nil, or_false] at hu
    rcases hu with rfl | rfl | rfl | rfl <;> rfl
  · unfold maxLen; omega
  · omega
  · intro g cap w2 h1 h2 h3 h4
    refine h _ w2 (OwnTys.push hown h1 h2 (fun q hq => ?_) hr ?_ hk) h2
    · exact rows_ne (hown.inner q hq).1 hown.row (by decide)
    · exact rows_ne hr hown.row (by decide)
theorem type_word {l : LsR} : (((l.rows.headD default).xs.headD ⟨#[]⟩).toList == [116, 121, 112, 101]) = (match l.data with
    | w :: _ => w.headD [] == bType
    | [] => false) := by
  obtain ⟨A, c, rows⟩ := l
  cases rows with
  | nil =>
    show ((⟨#[]⟩ : ByteArray).toList == _) = false
    rw [ByteArray.toList_eq]
    rfl
  | cons r rest =>
    obtain ⟨A2, c2, xs⟩ := r
    cases xs with
    | nil =>
      show ((⟨#[]⟩ : ByteArray).toList == _) = (([] : Bs) == bType)
      rw [ByteArray.toList_eq]
      rfl
    | cons s t =>
      show (s.toList == _) = (toL s == bType)
      rw [ByteArray.toList_eq]
      rfl
/-- What the reader holds behind all lines. -/
def ProgOut (w : World) (g : Nat) (o : Option PProg) (e : Ending) (w' : World) : Prop :=
  Tn g w w' ∧ match o with
  | none => e = giveUp
  | some p => ∃ (r : PrR) (l' : LsR) (x' : LnR), e = .returned (.tuple #[]) ∧ r.data = p ∧ OwnPr w' w.heap.size r ∧ Rdr w' g l' x' (.slice r.ta r.types.length r.tc) (.slice r.fa r.funs.length r.fc)
section
variable {g B : Nat} {w0 w w' : World} {l : LsR} {x : LnR} {tv fv : Value} {t : TypeId} {cs : Array Value}
theorem Rdr.grown (h : Rdr w g l x tv fv) {lo size n : Nat} {e : TypeId} {v : Value} {xs : List Value} (ho : w.ownsRow lo e size v n xs) (hg : w.grownBy w' v.ownBlock) (h1 : 9 ≠ e) (h2 : 51 ≠ e) (h3 : 63 ≠ e) : Rdr w' g l x tv fv :=
  h.spare (Spare.grown ho hg) h1 h2 h3
set_option maxRecDepth 100000 in
set_option maxHeartbeats 3200000 in
theorem rprogram_any (h : Rdr w g l x (.slice none 0 0) (.slice none 0 0)) (hl : LOk l) (hT : TabW w) :
    Calls Tryd.prog 17 #[.pointer (some ⟨g, 0, none⟩)] w (ProgOut w g (programQ l.data)) := by
  have hg0 := h.ne0 hT
  have HX := Lib.hid h
  have HT := Lib.hid hT
  have HL := Lib.hid hl
  have hyes := need_yes
  have hno := need_no
  clear h hT hl
  go_enter Tryd.func17, Tryd.ntmps17
  go_wp2_with fail
  go_loopw [] (fun wr => ∃ (ts : List TyR) (A : Option Addr) (c : Nat) (l' : LsR) (x' : LnR), Rdr wr g l' x' (.slice A ts.length c) (.slice none 0 0) ∧ OwnTys wr w.heap.size (.slice A ts.length c) ts ∧ TypesTo l.data (ts.map TyR.data) l'.data ∧ LOk l' ∧ Tn g w wr ∧ ts.length + l'.rows.length ≤ 20000 ∧ ∀ t ∈ ts, t.parts.length ≤ 20000) (fun wr => lenOf ((wr.cell? ⟨g, 0, none⟩).getD undef))
  case atStart => exact ⟨[], none, 0, l, x, HX.out, OwnTys.nil _ _, TypesTo.start _, HL.out, Tn.refl _ _, by have := HL.out.len; simpa using this, fun t ht => by cases ht⟩
  case round =>
    obtain ⟨ts, A, c, l', x', hrd, hown, hto, hlo, htn, hlen, hfew⟩ := hrel
    have HR := Lib.hid hrd
    have HO := Lib.hid hown
    have HTO := Lib.hid hto
    have HLO := Lib.hid hlo
    have HTN := Lib.hid htn
    have HLN := Lib.hid hlen
    have HFW := Lib.hid hfew
    have HFI := Lib.hid (first_any hrd hlo.full rfl)
    have HM0 : Hid (lenOf ((wr.cell? ⟨g, 0, none⟩).getD undef) = l'.rows.length) := Lib.hid (by rw [hrd.blk.cells 0]; rfl)
    have tw := type_word (l := l')
    obtain ⟨s, hs⟩ : ∃ s, (l'.rows.headD default).xs.headD ⟨#[]⟩ = s := ⟨_, rfl⟩
    rw [hs] at HFI tw
    obtain ⟨b, hb⟩ : ∃ b, (match l'.data with
      | w :: _ => w.headD [] == bType
      | [] => false) = b := ⟨_, rfl⟩
    rw [hb] at tw
    have HBT := Lib.hid hb
    clear hrd hown hto hlo htn hlen hfew hs hb
    cases b with
    | false =>
      have hd : typesQ l.data = some (ts.map TyR.data, l'.data) := by
        have h1 := HBT.out
        have h2 := HTO.out
        cases hd : l'.data with
        | nil => rw [hd] at h2; exact h2.ends
        | cons w t =>
          rw [hd] at h1 h2
          exact h2.done (by simpa using h1)
      have HP : Hid (programQ l.data = (funsR (tbl ts) l'.data).map fun fs => ⟨tbl ts, fs⟩) := Lib.hid (by unfold programQ; rw [hd]; rfl)
      clear hd
      go_wp2_with (go_at_call 32; refine HFI.out.mono ?_; rintro e w1 ⟨rfl, rfl⟩)
      obtain ⟨wo, hwo⟩ : ∃ wo : World, wo = w1 := ⟨_, rfl⟩
      subst hwo
      go_loopw [] (fun w2 => ∃ (fs : List FuR) (A2 : Option Addr) (c2 : Nat) (l2 : LsR) (x2 : LnR), Rdr w2 g l2 x2 (.slice A ts.length c) (.slice A2 fs.length c2) ∧ OwnTys w2 w.heap.size (.slice A ts.length c) ts ∧ OwnFus w2 w.heap.size (.slice A2 fs.length c2) fs ∧ FunsTo (tbl ts) l'.data (fs.map FuR.data) l2.data ∧ LOk l2 ∧ Tn g w w2 ∧ fs.length + l2.rows.length ≤ 20000) (fun w2 => lenOf ((w2.cell? ⟨g, 0, none⟩).getD undef))
      case atStart => exact ⟨[], none, 0, l', x', HR.out, HO.out, OwnFus.nil _ _, FunsTo.start _ _, HLO.out, HTN.out, by have := HLN.out; simp only [List.length_nil]; omega⟩
      case round =>
        obtain ⟨fs, A2, c2, l2, x2, hrd, hot, hown, hto, hlo, htn, hlen⟩ := hrel
        have HR2 := Lib.hid hrd
        have HOT := Lib.hid hot
        have HOF := Lib.hid hown
        have HTF := Lib.hid hto
        have HLO2 := Lib.hid hlo
        have HTN2 := Lib.hid htn
        have HLN2 := Lib.hid hlen
        have HNX := Lib.hid (next_any hrd)
        have HM2 : Hid (lenOf ((wr.cell? ⟨g, 0, none⟩).getD undef) = l2.rows.length) := Lib.hid (by rw [hrd.blk.cells 0]; rfl)
        have HTW := Lib.hid (HT.out.tn hg0 htn)
        clear hrd hot hown hto hlo htn hlen
        cases hd : l2.rows with
        | nil =>
          rw [hd] at HNX
          have HI : Hid (programQ l.data = some ⟨tbl ts, fs.map FuR.data⟩) := Lib.hid (by
            have h2 := HTF.out
            rw [show l2.data = [] by show l2.rows.map LnR.data = []; rw [hd]; rfl] at h2
            rw [HP.out, h2.done]
            rfl)
          clear hd
          go_wp2_with (go_at_call 33; refine HNX.out.mono ?_; rintro e w3 ⟨rfl, rfl⟩)
          refine bodyPost_end (results_none rfl _ _ _) rfl ?_
          exact ⟨HTN2.out, by rw [HI.out]; exact ⟨⟨A, c, ts, A2, c2, fs⟩, l2, x2, rfl, rfl, ⟨HOT.out, HOF.out⟩, HR2.out⟩⟩
        | cons r rest =>
          rw [hd] at HNX
          obtain ⟨hdd, hlr⟩ := LsR.rest_data hd
          have hmem : r ∈ l2.rows := by rw [hd]; exact List.mem_cons_self ..
          obtain ⟨hr0, hfw⟩ := HLO2.out.full r hmem
          have HDD := Lib.hid hdd
          have HLR := Lib.hid hlr
          clear hd hdd hlr hmem hfw
          cases hxs : r.xs with
          | nil => rw [hxs] at hr0; exact absurd hr0 (Nat.lt_irrefl _)
          | cons s0 t0 =>
            have HXS := Lib.hid hxs
            have HHD : Hid (r.data = toL s0 :: r.rest.data) := Lib.hid (by show r.xs.map toL = toL s0 :: (r.xs.drop 1).map toL; rw [hxs]; rfl)
            clear hxs hr0
            by_cases hf : toL s0 = bFunc
            · have e0 : (s0.toList == [102, 117, 110, 99]) = true := str_yes hf
              obtain ⟨o, ho⟩ : ∃ o, functionQ (tbl ts) r.rest.data l2.rest.data = o := ⟨_, rfl⟩
              have HTB := Lib.hid (show FunsTo (tbl ts) l'.data (fs.map FuR.data) ((toL s0 :: r.rest.data) :: l2.rest.data) by rw [← HHD.out, ← HDD.out]; exact HTF.out)
              have HFE := Lib.hid (show (toL s0 :: r.rest.data).headD [] = bFunc from hf)
              clear hf
              go_wp2_with (first
                | (go_at_call 33; refine HNX.out.mono ?_; rintro e w3 ⟨rfl, hr, ht⟩; have HR3 := Lib.hid hr; have HT3 := Lib.hid ht; clear hr ht)
                | (go_at_call 34; refine (word_yes HR3.out HXS.out).mono ?_; rintro e w4 ⟨rfl, hr, ht⟩; have HR4 := Lib.hid hr; have HT4 := Lib.hid (HT3.out.trans ht); clear hr ht)
                | (go_at_call 36; refine (hyes _).mono ?_; rintro e w5 ⟨rfl, rfl⟩))
              have HS4 := Lib.hid (HT4.out.spare HR2.out.blk)
              have HOT4 := Lib.hid ((HOT.out.spare HS4.out (by decide) (by decide)).keep ((Below.refl _ _).drew))
              have HOF4 := Lib.hid ((HOF.out.spare HS4.out (by decide) (by decide) (by decide) (by decide)).keep ((Below.refl _ _).drew))
              have HRd := Lib.hid (HR4.out.on ((Below.refl _ _).drew))
              have HTd := Lib.hid (HT4.out.on ((Below.refl _ _).drew))
              have HFU := Lib.hid (rfunction_any HRd.out HLO2.out.rest (HTW.out.tn hg0 HTd.out) rfl HOT4.out HFW.out)
              rw [ho] at HFU
              have HOq := Lib.hid ho
              have i3 := HR4.out.blk.cells 3
              clear ho
              refine wp_region_T (fun w' => w'.cell? ⟨g, 3, none⟩ = some (.slice A2 fs.length c2)) 13 (by kernel_rfl) i3 (fun hHeld => ?_)
              refine wpAnyT_take (i := 0) (by kernel_rfl) (by decide) rfl (by kernel_rfl) (by kernel_rfl) (by kernel_rfl) (fun _ _ _ h => h) (Or.inl ⟨by rfl, by (intro w hSw; (try dsimp only at hSw); go_simp; (try with_reducible rfl))⟩) (by assumption) ?_; (try simp only [Act.put, List.setIfInBounds_toArray, List.set_cons_zero, List.set_cons_succ])
              refine wpAnyT_take (i := 1) (by kernel_rfl) (by decide) rfl (by kernel_rfl) (by kernel_rfl) (by kernel_rfl) (fun _ _ _ h => h) (Or.inl ⟨by rfl, by (intro w hSw; (try dsimp only at hSw); go_simp; (try with_reducible rfl))⟩) (by assumption) ?_; (try simp only [Act.put, List.setIfInBounds_toArray, List.set_cons_zero, List.set_cons_succ])
              refine wpAnyT_take (i := 2) (by kernel_rfl) (by decide) rfl (by kernel_rfl) (by kernel_rfl) (by kernel_rfl) (fun _ _ _ h => h) (Or.inl ⟨by rfl, by (intro w hSw; (try dsimp only at hSw); go_simp; (try with_reducible rfl))⟩) (by assumption) ?_; (try simp only [Act.put, List.setIfInBounds_toArray, List.set_cons_zero, List.set_cons_succ])
              refine wpAnyT_take (i := 3) (by kernel_rfl) (by decide) rfl (by kernel_rfl) (by kernel_rfl) (by kernel_rfl) (fun _ _ _ h => h) (Or.inl ⟨by rfl, by (intro w hSw; (try dsimp only at hSw); go_simp; (try with_reducible rfl))⟩) (by assumption) ?_; (try simp only [Act.put, List.setIfInBounds_toArray, List.set_cons_zero, List.set_cons_succ])
              refine wpAnyT_take (i := 4) (by kernel_rfl) (by decide) rfl (by kernel_rfl) (by kernel_rfl) (by kernel_rfl) (fun _ _ _ h => h) (Or.inl ⟨by rfl, by (intro w hSw; (try dsimp only at hSw); go_simp; (try with_reducible rfl))⟩) (by assumption) ?_; (try simp only [Act.put, List.setIfInBounds_toArray, List.set_cons_zero, List.set_cons_succ])
              refine wpAnyT_take (i := 5) (by kernel_rfl) (by decide) rfl (by kernel_rfl) (by kernel_rfl) (by kernel_rfl) (fun _ _ _ h => h) (Or.inl ⟨by rfl, by (intro w hSw; (try dsimp only at hSw); go_simp; (try with_reducible rfl))⟩) (by assumption) ?_; (try simp only [Act.put, List.setIfInBounds_toArray, List.set_cons_zero, List.set_cons_succ])
              refine wpAnyT_take (i := 6) (by kernel_rfl) (by decide) rfl (by kernel_rfl) (by kernel_rfl) (by kernel_rfl) (fun _ _ _ h => h) (Or.inl ⟨by rfl, by (intro w hSw; (try dsimp only at hSw); go_simp; (try with_reducible rfl))⟩) (by assumption) ?_; (try simp only [Act.put, List.setIfInBounds_toArray, List.set_cons_zero, List.set_cons_succ])
              refine wpAnyT_one (i := 7) (by kernel_rfl) rfl (fun K hK => ?_)
              go_simp
              refine HFU.out.mono ?_
              rintro e w6 ⟨ht, hm⟩
              cases o with
              | none =>
                have hm : e = giveUp := hm
                subst hm
                exact ⟨rfl, HTN2.out.trans (HTd.out.trans ht), by rw [HP.out, HTB.out.bad2 HOq.out]; rfl⟩
              | some q =>
                obtain ⟨f, L2⟩ := q
                obtain ⟨v6, l6, x6, rfl, ⟨rf, rfl, hrf, hro⟩, hl6, hlo6, hx6, hr6⟩ := hm
                have HT6 := Lib.hid (HTd.out.trans ht)
                have hsp := ht.spare HRd.out.blk
                have HOT6 := Lib.hid (HOT4.out.spare hsp (by decide) (by decide))
                have HOF6 := Lib.hid (HOF4.out.spare hsp (by decide) (by decide) (by decide) (by decide))
                have hsz : w.heap.size ≤ w5.drew.heap.size := (HTN2.out.trans HTd.out).size
                have HRO := Lib.hid (OwnBls.more hro hsz)
                have HR6 := Lib.hid hr6
                have HRF := Lib.hid hrf
                have HL6 := Lib.hid hl6
                have HLO6 := Lib.hid hlo6
                clear ht hsp hr6 hro hrf hl6 hlo6 hx6
                obtain ⟨sig, ba, bc, blocks⟩ := rf
                unfold FuR.val
                dsimp only at *
                have i6 : w6.cell? ⟨g, 3, none⟩ = some (.slice A2 fs.length c2) := HR6.out.blk.cells 3
                refine hK.out _ _ (fun _ => i6) (fun hH => ?_); clear hHeld hK K; have hHeld := hH (by decide); clear hH
                refine wpAnyT_one (i := 8) (by kernel_rfl) rfl (fun K hK => ?_)
                go_simp
                have HR7 := Lib.hid (HR6.out.on (w' := w6.alloc (.cells #[.int .i64 sig, .slice ba blocks.length bc] 31)) ((Below.refl _ _).alloc (Nat.le_refl _) _))
                have HOT7 := Lib.hid (HOT6.out.keep (w' := w6.alloc (.cells #[.int .i64 sig, .slice ba blocks.length bc] 31)) ((Below.refl _ _).alloc (Nat.le_refl _) _))
                have HOF7 := Lib.hid (HOF6.out.keep (w' := w6.alloc (.cells #[.int .i64 sig, .slice ba blocks.length bc] 31)) ((Below.refl _ _).alloc (Nat.le_refl _) _))
                have HT7 := Lib.hid (HT6.out.on (w2 := w6.alloc (.cells #[.int .i64 sig, .slice ba blocks.length bc] 31)) ((Below.refl _ _).alloc (Nat.le_refl _) _))
                have i7 : (w6.alloc (.cells #[.int .i64 sig, .slice ba blocks.length bc] 31)).cell? ⟨g, 3, none⟩ = some (.slice A2 fs.length c2) := HR7.out.blk.cells 3
                refine hK.out _ _ (fun _ => i7) (fun hH => ?_); clear hHeld hK K; have hHeld := hH (by decide); clear hH
                refine wpAnyT_one (i := 9) (by kernel_rfl) rfl (fun K hK => ?_)
                refine step_appF rfl (.tmp 53) (.tmp 56) rfl w.heap.size _ fs ⟨sig, ba, bc, blocks⟩ (by rfl) HOF7.out w6.heap.size (by rfl) (Blk.new w6 _ _) (OwnBls.keep HRO.out ((Below.refl _ _).alloc (Nat.le_refl _) _)) ((HTN2.out.trans HT7.out).size) (by have := HLN2.out; omega) ?_
                rintro v8 w8 hof8 hg8
                have HS8 := Lib.hid (Spare.grown HOF7.out.row hg8)
                have HR8 := Lib.hid (HR7.out.spare HS8.out (by decide) (by decide) (by decide))
                have HOT8 := Lib.hid (HOT7.out.spare HS8.out (by decide) (by decide))
                have HT8 := Lib.hid ((HTN2.out.trans HT7.out).grown hg8 (own_base HOF7.out.row))
                obtain ⟨fs2, hfs2⟩ : ∃ fs2, fs ++ [(⟨sig, ba, bc, blocks⟩ : FuR)] = fs2 := ⟨_, rfl⟩
                rw [hfs2] at hof8
                have HFS := Lib.hid hfs2
                obtain ⟨A8, c8, rfl, _⟩ := hof8.form
                have HOF8 := Lib.hid hof8
                have i8 : w8.cell? ⟨g, 3, none⟩ = some (.slice A2 fs.length c2) := HR8.out.blk.cells 3
                clear hof8 hg8 hfs2
                try dsimp only
                refine hK.out _ _ (fun _ => i8) (fun hH => ?_); clear hHeld hK K; have hHeld := hH (by decide); clear hH
                refine wpAnyT_one (i := 10) (by kernel_rfl) rfl (fun K hK => ?_)
                go_simp
                refine hK.out _ _ (fun _ => i8) (fun hH => ?_); clear hHeld hK K; have hHeld := hH (by decide); clear hH
                refine wpAnyT_one (i := 11) (by kernel_rfl) rfl (fun K hK => ?_)
                go_simp
                refine hK.out _ _ (fun _ => i8) (fun hH => ?_); clear hHeld hK K; have hHeld := hH (by decide); clear hH
                refine wpAnyT_one (i := 12) (by kernel_rfl) rfl (fun K hK => ?_)
                go_simp
                refine hK.out _ _ (fun _ => i8) (fun hH => ?_); clear hHeld hK K; have hHeld := hH (by decide); clear hH
                refine wpAnyT_one (i := 13) (by kernel_rfl) rfl (fun K hK => ?_)
                have j8 := HR8.out.blk.free 3
                go_simp
                refine hK.out _ _ (fun e => absurd rfl e) (fun hH => ?_); refine wpAnyT_done (by kernel_rfl) ?_ _; clear hHeld hK K hH
                have HR9 := Lib.hid (HR8.out.funs (.slice A8 fs2.length c8))
                have HS9 := Lib.hid (Spare.set (j := 3) HR8.out.blk (.slice A8 fs2.length c8))
                have HOT9 := Lib.hid (HOT8.out.spare HS9.out (by decide) (by decide))
                have HOF9 := Lib.hid (HOF8.out.spare HS9.out (by decide) (by decide) (by decide) (by decide))
                have HT9 := Lib.hid (HT8.out.put 3 (.slice A8 fs2.length c8))
                have HM9 : Hid (lenOf (((w8.setCell ⟨g, 3, none⟩ (.slice A8 fs2.length c8)).cell? ⟨g, 0, none⟩).getD undef) = l6.rows.length) := Lib.hid (by rw [HR9.out.blk.cells 0]; rfl)
                have HLE : Hid (l6.rows.length ≤ l2.rest.rows.length) := Lib.hid (by
                  have h1 := functionQ_len HOq.out
                  have h2 : l6.data.length = l6.rows.length := List.length_map ..
                  have h3 : l2.rest.data.length = l2.rest.rows.length := List.length_map ..
                  rw [HL6.out] at h2
                  dsimp only at h1
                  omega)
                go_wp2_with fail
                go_roundw
                case rel => exact ⟨fs2, A8, c8, l6, x6, HR9.out, HOT9.out, HOF9.out, by rw [← HFS.out, List.map_append, HL6.out]; exact HTB.out.step HFE.out (by show functionQ (tbl ts) r.rest.data l2.rest.data = _; rw [HOq.out, ← HRF.out]), HLO6.out, HT9.out, by rw [← HFS.out, List.length_append]; have h1 := HLN2.out; have h2 := HLE.out; have h3 := HLR.out; simp only [List.length_cons, List.length_nil]; omega⟩
                case measure => rw [HM9.out, HM2.out]; have h2 := HLE.out; have h3 := HLR.out; omega
            · have e0 : (s0.toList == [102, 117, 110, 99]) = false := str_no hf
              have HI : Hid (programQ l.data = none) := Lib.hid (by
                have h2 := HTF.out
                rw [HDD.out] at h2
                rw [HP.out, h2.bad1 (by rw [HHD.out]; exact hf)]
                rfl)
              clear hf
              go_wp2_with (first
                | (go_at_call 33; refine HNX.out.mono ?_; rintro e w3 ⟨rfl, hr, ht⟩; have HR3 := Lib.hid hr; have HT3 := Lib.hid ht; clear hr ht)
                | (go_at_call 34; refine (word_yes HR3.out HXS.out).mono ?_; rintro e w4 ⟨rfl, hr, ht⟩; have HT4 := Lib.hid (HT3.out.trans ht); clear hr ht)
                | (go_at_call 36; refine (hno _).mono ?_; rintro e w5 ⟨rfl, rfl⟩))
              exact ⟨rfl, HTN2.out.trans HT4.out, by rw [HI.out]⟩
    | true =>
      have HNX := Lib.hid (next_any HR.out)
      cases hd : l'.rows with
      | nil =>
        have h1 := HBT.out
        rw [show l'.data = [] by show l'.rows.map LnR.data = []; rw [hd]; rfl] at h1
        cases h1
      | cons r rest =>
        rw [hd] at HNX
        obtain ⟨hdd, hlr⟩ := LsR.rest_data hd
        have hmem : r ∈ l'.rows := by rw [hd]; exact List.mem_cons_self ..
        obtain ⟨hr0, hfw⟩ := HLO.out.full r hmem
        have hfe := HLO.out.few r hmem
        have HDD := Lib.hid hdd
        have HLR := Lib.hid hlr
        have HHT : Hid (r.data.headD [] = bType) := Lib.hid (by have h1 := HBT.out; rw [hdd] at h1; exact eq_of_beq h1)
        clear hd hdd hlr hmem hfw
        cases hxs : r.xs with
        | nil => rw [hxs] at hr0; exact absurd hr0 (Nat.lt_irrefl _)
        | cons s0 t0 =>
          have HXS := Lib.hid hxs
          have HHD : Hid (r.data = toL s0 :: r.rest.data) := Lib.hid (by show r.xs.map toL = toL s0 :: (r.xs.drop 1).map toL; rw [hxs]; rfl)
          have HFE : Hid (r.rest.xs.length ≤ 20000) := Lib.hid (by show (r.xs.drop 1).length ≤ 20000; rw [List.length_drop]; omega)
          clear hxs hr0 hfe
          obtain ⟨o, ho⟩ : ∃ o, kindQ r.rest.data = o := ⟨_, rfl⟩
          have HTB := Lib.hid (show TypesTo l.data (ts.map TyR.data) ((toL s0 :: r.rest.data) :: l'.rest.data) by rw [← HHD.out, ← HDD.out]; exact HTO.out)
          have HHE := Lib.hid (show (toL s0 :: r.rest.data).headD [] = bType by rw [← HHD.out]; exact HHT.out)
          go_wp2_with (first
            | (go_at_call 32; refine HFI.out.mono ?_; rintro e w1 ⟨rfl, rfl⟩)
            | (go_at_call 33; refine HNX.out.mono ?_; rintro e w3 ⟨rfl, hr, ht⟩; have HR3 := Lib.hid hr; have HT3 := Lib.hid ht; clear hr ht)
            | (go_at_call 34; refine (word_yes HR3.out HXS.out).mono ?_; rintro e w4 ⟨rfl, hr, ht⟩; have HR4 := Lib.hid hr; have HT4 := Lib.hid (HT3.out.trans ht); clear hr ht))
          have HS4 := Lib.hid (HT4.out.spare HR.out.blk)
          have HO4 := Lib.hid ((HO.out.spare HS4.out (by decide) (by decide)).keep ((Below.refl _ _).drew))
          have HRd := Lib.hid (HR4.out.on ((Below.refl _ _).drew))
          have HTd := Lib.hid (HT4.out.on ((Below.refl _ _).drew))
          have HKI := Lib.hid (rkind_any HRd.out HFE.out)
          rw [ho] at HKI
          have HOq := Lib.hid ho
          have i2 := HR4.out.blk.cells 2
          clear ho
          refine wp_region_T (fun w' => w'.cell? ⟨g, 2, none⟩ = some (.slice A ts.length c)) 13 (by kernel_rfl) i2 (fun hHeld => ?_)
          refine wpAnyT_take (i := 0) (by kernel_rfl) (by decide) rfl (by kernel_rfl) (by kernel_rfl) (by kernel_rfl) (fun _ _ _ h => h) (Or.inl ⟨by rfl, by (intro w hSw; (try dsimp only at hSw); go_simp; (try with_reducible rfl))⟩) (by assumption) ?_; (try simp only [Act.put, List.setIfInBounds_toArray, List.set_cons_zero, List.set_cons_succ])
          refine wpAnyT_take (i := 1) (by kernel_rfl) (by decide) rfl (by kernel_rfl) (by kernel_rfl) (by kernel_rfl) (fun _ _ _ h => h) (Or.inl ⟨by rfl, by (intro w hSw; (try dsimp only at hSw); go_simp; (try with_reducible rfl))⟩) (by assumption) ?_; (try simp only [Act.put, List.setIfInBounds_toArray, List.set_cons_zero, List.set_cons_succ])
          refine wpAnyT_take (i := 2) (by kernel_rfl) (by decide) rfl (by kernel_rfl) (by kernel_rfl) (by kernel_rfl) (fun _ _ _ h => h) (Or.inl ⟨by rfl, by (intro w hSw; (try dsimp only at hSw); go_simp; (try with_reducible rfl))⟩) (by assumption) ?_; (try simp only [Act.put, List.setIfInBounds_toArray, List.set_cons_zero, List.set_cons_succ])
          refine wpAnyT_take (i := 3) (by kernel_rfl) (by decide) rfl (by kernel_rfl) (by kernel_rfl) (by kernel_rfl) (fun _ _ _ h => h) (Or.inl ⟨by rfl, by (intro w hSw; (try dsimp only at hSw); go_simp; (try with_reducible rfl))⟩) (by assumption) ?_; (try simp only [Act.put, List.setIfInBounds_toArray, List.set_cons_zero, List.set_cons_succ])
          refine wpAnyT_take (i := 4) (by kernel_rfl) (by decide) rfl (by kernel_rfl) (by kernel_rfl) (by kernel_rfl) (fun _ _ _ h => h) (Or.inl ⟨by rfl, by (intro w hSw; (try dsimp only at hSw); go_simp; (try with_reducible rfl))⟩) (by assumption) ?_; (try simp only [Act.put, List.setIfInBounds_toArray, List.set_cons_zero, List.set_cons_succ])
          refine wpAnyT_take (i := 5) (by kernel_rfl) (by decide) rfl (by kernel_rfl) (by kernel_rfl) (by kernel_rfl) (fun _ _ _ h => h) (Or.inl ⟨by rfl, by (intro w hSw; (try dsimp only at hSw); go_simp; (try with_reducible rfl))⟩) (by assumption) ?_; (try simp only [Act.put, List.setIfInBounds_toArray, List.set_cons_zero, List.set_cons_succ])
          refine wpAnyT_take (i := 6) (by kernel_rfl) (by decide) rfl (by kernel_rfl) (by kernel_rfl) (by kernel_rfl) (fun _ _ _ h => h) (Or.inl ⟨by rfl, by (intro w hSw; (try dsimp only at hSw); go_simp; (try with_reducible rfl))⟩) (by assumption) ?_; (try simp only [Act.put, List.setIfInBounds_toArray, List.set_cons_zero, List.set_cons_succ])
          refine wpAnyT_one (i := 7) (by kernel_rfl) rfl (fun K hK => ?_)
          go_simp
          refine HKI.out.mono ?_
          rintro e w6 ⟨ht, hm⟩
          cases o with
          | none =>
            have hm : e = giveUp := hm
            subst hm
            have hb : programQ l.data = none := by unfold programQ; rw [HTB.out.bad HHE.out (by show lineQ (kindQ r.rest.data) = none; rw [HOq.out]; rfl)]
            exact ⟨rfl, HTN.out.trans (HTd.out.trans ht), by rw [hb]⟩
          | some q =>
            obtain ⟨ty, W⟩ := q
            obtain ⟨v6, x6, rfl, ⟨rt, rfl, hrt, hro, hk⟩, hx6, hr6⟩ := hm
            have HT6 := Lib.hid (HTd.out.trans ht)
            have hsp := ht.spare HRd.out.blk
            have HO6 := Lib.hid (HO4.out.spare hsp (by decide) (by decide))
            have hsz : w.heap.size ≤ w4.drew.heap.size := (HTN.out.trans HTd.out).size
            have HRO := Lib.hid (hro.more hsz)
            have HR6 := Lib.hid hr6
            have HRT := Lib.hid hrt
            have HX6 := Lib.hid hx6
            have HK6 := Lib.hid hk
            clear ht hsp hr6 hro hrt hx6 hk
            obtain ⟨kd, el, mn, pa, pc, parts⟩ := rt
            unfold TyR.val
            dsimp only at *
            have i6 : w6.cell? ⟨g, 2, none⟩ = some (.slice A ts.length c) := HR6.out.blk.cells 2
            refine hK.out _ _ (fun _ => i6) (fun hH => ?_); clear hHeld hK K; have hHeld := hH (by decide); clear hH
            refine wpAnyT_one (i := 8) (by kernel_rfl) rfl (fun K hK => ?_)
            go_simp
            have HR7 := Lib.hid (HR6.out.on (w' := w6.alloc (.cells #[.int .u8 kd, .int .i64 el, .int .i64 mn, .slice pa parts.length pc] 41)) ((Below.refl _ _).alloc (Nat.le_refl _) _))
            have HO7 := Lib.hid (HO6.out.keep (w' := w6.alloc (.cells #[.int .u8 kd, .int .i64 el, .int .i64 mn, .slice pa parts.length pc] 41)) ((Below.refl _ _).alloc (Nat.le_refl _) _))
            have HT7 := Lib.hid (HT6.out.on (w2 := w6.alloc (.cells #[.int .u8 kd, .int .i64 el, .int .i64 mn, .slice pa parts.length pc] 41)) ((Below.refl _ _).alloc (Nat.le_refl _) _))
            have i7 : (w6.alloc (.cells #[.int .u8 kd, .int .i64 el, .int .i64 mn, .slice pa parts.length pc] 41)).cell? ⟨g, 2, none⟩ = some (.slice A ts.length c) := HR7.out.blk.cells 2
            refine hK.out _ _ (fun _ => i7) (fun hH => ?_); clear hHeld hK K; have hHeld := hH (by decide); clear hH
            refine wpAnyT_one (i := 9) (by kernel_rfl) rfl (fun K hK => ?_)
            refine step_appTy rfl (.tmp 22) (.tmp 25) rfl w.heap.size _ ts ⟨kd, el, mn, pa, pc, parts⟩ (by rfl) HO7.out w6.heap.size (by rfl) (Blk.new w6 _ _) (HRO.out.keep ((Below.refl _ _).alloc (Nat.le_refl _) _)) HK6.out ((HTN.out.trans HT7.out).size) (by have := HLN.out; omega) ?_
            rintro v8 w8 hot8 hg8
            have HS8 := Lib.hid (Spare.grown HO7.out.row hg8)
            have HR8 := Lib.hid (HR7.out.spare HS8.out (by decide) (by decide) (by decide))
            have HT8 := Lib.hid ((HTN.out.trans HT7.out).grown hg8 (own_base HO7.out.row))
            obtain ⟨ts2, hts2⟩ : ∃ ts2, ts ++ [(⟨kd, el, mn, pa, pc, parts⟩ : TyR)] = ts2 := ⟨_, rfl⟩
            rw [hts2] at hot8
            have HTS := Lib.hid hts2
            obtain ⟨A8, c8, rfl, _⟩ := hot8.form
            have HO8 := Lib.hid hot8
            have i8 : w8.cell? ⟨g, 2, none⟩ = some (.slice A ts.length c) := HR8.out.blk.cells 2
            clear hot8 hg8 hts2
            try dsimp only
            refine hK.out _ _ (fun _ => i8) (fun hH => ?_); clear hHeld hK K; have hHeld := hH (by decide); clear hH
            refine wpAnyT_one (i := 10) (by kernel_rfl) rfl (fun K hK => ?_)
            go_simp
            refine hK.out _ _ (fun _ => i8) (fun hH => ?_); clear hHeld hK K; have hHeld := hH (by decide); clear hH
            refine wpAnyT_one (i := 11) (by kernel_rfl) rfl (fun K hK => ?_)
            go_simp
            refine hK.out _ _ (fun _ => i8) (fun hH => ?_); clear hHeld hK K; have hHeld := hH (by decide); clear hH
            refine wpAnyT_one (i := 12) (by kernel_rfl) rfl (fun K hK => ?_)
            go_simp
            refine hK.out _ _ (fun _ => i8) (fun hH => ?_); clear hHeld hK K; have hHeld := hH (by decide); clear hH
            refine wpAnyT_one (i := 13) (by kernel_rfl) rfl (fun K hK => ?_)
            have j8 := HR8.out.blk.free 2
            go_simp
            refine hK.out _ _ (fun e => absurd rfl e) (fun hH => ?_); refine wpAnyT_done (by kernel_rfl) ?_ _; clear hHeld hK K hH
            have HR9 := Lib.hid (HR8.out.types (.slice A8 ts2.length c8))
            have HS9 := Lib.hid (Spare.set (j := 2) HR8.out.blk (.slice A8 ts2.length c8))
            have HO9 := Lib.hid (HO8.out.spare HS9.out (by decide) (by decide))
            have HT9 := Lib.hid (HT8.out.put 2 (.slice A8 ts2.length c8))
            have HM9 : Hid (lenOf (((w8.setCell ⟨g, 2, none⟩ (.slice A8 ts2.length c8)).cell? ⟨g, 0, none⟩).getD undef) = l'.rest.rows.length) := Lib.hid (by rw [HR9.out.blk.cells 0]; rfl)
            cases W with
            | cons a t =>
              have hxl : x6.xs.length = t.length + 1 := by rw [← LnR.data_len, HX6.out]; rfl
              have c9 := (HR9.out.blk.cells 1).trans (show _ = some (Value.slice x6.a (t.length + 1) x6.c) by rw [← hxl]; rfl)
              have qt : ((((t.length + 1 : Nat) : Int)) == 0) = false := by simp; omega
              have HI : Hid (programQ l.data = none) := Lib.hid (by unfold programQ; rw [HTB.out.bad HHE.out (by show lineQ (kindQ r.rest.data) = none; rw [HOq.out]; rfl)])
              clear hxl
              go_wp2_with (go_at_call 36; refine (hno _).mono ?_; rintro e w5 ⟨rfl, rfl⟩)
              exact ⟨rfl, HT9.out, by rw [HI.out]⟩
            | nil =>
              have hxl : x6.xs.length = 0 := by rw [← LnR.data_len, HX6.out]; rfl
              have c9 := (HR9.out.blk.cells 1).trans (show _ = some (Value.slice x6.a 0 x6.c) by rw [← hxl]; rfl)
              have hkp : parts.length ≤ 20000 := by
                have h1 := kindQ_parts HOq.out
                rw [← HRT.out] at h1
                have h2 : r.rest.data.length = r.rest.xs.length := List.length_map ..
                have h3 := HFE.out
                have h4 : (TyR.data ⟨kd, el, mn, pa, pc, parts⟩).parts.length = parts.length := rfl
                omega
              have HKP := Lib.hid hkp
              clear hxl hkp
              go_wp2_with (go_at_call 36; refine (hyes _).mono ?_; rintro e w5 ⟨rfl, rfl⟩)
              go_roundw
              case rel => exact ⟨ts2, A8, c8, l'.rest, x6, HR9.out, HO9.out, by rw [← HTS.out, List.map_append]; exact HTB.out.step HHE.out (by show lineQ (kindQ r.rest.data) = _; rw [HOq.out, ← HRT.out]; rfl), HLO.out.rest, HT9.out, by rw [← HTS.out, List.length_append]; have h1 := HLN.out; have h3 := HLR.out; simp only [List.length_cons, List.length_nil]; omega, fun t ht => by
                rw [← HTS.out] at ht
                rcases List.mem_append.1 ht with ht | ht
                · exact HFW.out t ht
                · rw [List.mem_singleton.1 ht]; exact HKP.out⟩
              case measure => rw [HM9.out, HM0.out]; have h3 := HLR.out; omega
end
end Go.Proofs.YtbffebcjimhapaaDoor
namespace Go.Proofs.YtbffebcjimhapaaDoor
set_option linter.unusedVariables false
set_option linter.unusedSimpArgs false
open Go.ChangeShapes Go.WideShapes Go.ChangeAt Go.RowKit

def wrongV : Value := .iface 58 (.agg #[])
set_option maxRecDepth 100000 in
theorem catch_wrong (P E : Nat) (w : World) {p0 p1 e0 : Value} {tp te : TypeId} (hP : Blk w P tp #[p0, p1]) (hE : Blk w E te #[e0]) (hne : E ≠ P) :
    CallsD Tryd.prog 16 #[.pointer (some ⟨P, 0, none⟩), .pointer (some ⟨E, 0, none⟩)] (.panicking [{ v := wrongV, recovered := false }]) w fun e u' w' =>
      e = .returned (.tuple #[]) ∧ u' = .panicking [{ v := wrongV, recovered := true }] ∧ Blk w' P tp #[.slice none 0 0, .slice none 0 0] ∧ Blk w' E te #[.int .i64 70] ∧ Below (min P E) w w' := by
  have hP1 := hP.alloc (.cells #[] 58)
  have hE1 := hE.alloc (.cells #[] 58)
  have HP1 := Lib.hid hP1
  have HE1 := Lib.hid hE1
  have p0' := hP1.cells 0
  have p1' := hP1.cells 1
  have e0' := hE1.cells 0
  have z0 := hP1.free 0
  have z1 := hP1.free 1
  have z2 := hE1.free 0
  have n1 : P ≠ E := fun e => hne e.symm
  have HPL := Lib.hid hP.lt
  have HEL := Lib.hid hE.lt
  clear hP hE hP1 hE1
  unfold wrongV
  refine callsD_of_wpS Tryd.func16 rfl fun c₀ cs hu => ?_
  apply wpS_seq
  apply wpS_region
  simp [wpOpsS, go_sem, recoverD, hu, Tryd.ntmps16, Exit.thenS]
  have hta : ∀ (t : TypeId) (w : World), (Instr.typeAssert (Value.iface 58 (Value.agg #[])) t 58 true).run Tryd.prog w = .ok (.tuple #[.agg #[], .bool true]) w := fun t w => by kernel_rfl
  refine wpS_of_wp ?_
  go_wp2_with fail
  have h1 : Blk ((((w.alloc (.cells #[] 58)).setCell ⟨P, 0, none⟩ (.slice none 0 0)).setCell ⟨P, 1, none⟩ (.slice none 0 0)).setCell ⟨E, 0, none⟩ (.int .i64 70)) P tp #[.slice none 0 0, .slice none 0 0] := ((HP1.out.put 0 (.slice none 0 0)).put 1 (.slice none 0 0)).far (p := ⟨E, 0, none⟩) n1 _
  have h2 : Blk ((((w.alloc (.cells #[] 58)).setCell ⟨P, 0, none⟩ (.slice none 0 0)).setCell ⟨P, 1, none⟩ (.slice none 0 0)).setCell ⟨E, 0, none⟩ (.int .i64 70)) E te #[.int .i64 70] := ((HE1.out.far (p := ⟨P, 0, none⟩) hne (.slice none 0 0)).far (p := ⟨P, 1, none⟩) hne (.slice none 0 0)).put 0 (.int .i64 70)
  have h3 : Below (min P E) w ((((w.alloc (.cells #[] 58)).setCell ⟨P, 0, none⟩ (.slice none 0 0)).setCell ⟨P, 1, none⟩ (.slice none 0 0)).setCell ⟨E, 0, none⟩ (.int .i64 70)) := ((((Below.refl _ _).alloc (by have := HPL.out; omega) _).setCell (by show min P E ≤ P; omega) _).setCell (by show min P E ≤ P; omega) _).setCell (by show min P E ≤ E; omega) _
  have H := Lib.hid (And.intro h1 (And.intro h2 h3))
  clear h1 h2 h3
  simp [bodyPostS, results, Tryd.results16]
  exact H.out
theorem catch_idle (P E : Addr) (w : World) :
    CallsD Tryd.prog 16 #[.pointer (some P), .pointer (some E)] .returning w fun e u' w' => e = .returned (.tuple #[]) ∧ u' = .returning ∧ w' = w := by
  refine callsD_of_wpS Tryd.func16 rfl fun c₀ cs hu => ?_
  apply wpS_seq
  apply wpS_region
  simp [wpOpsS, go_sem, recoverD, hu, Tryd.ntmps16, Exit.thenS]
  refine wpS_of_wp ?_
  go_wp2_with fail
  cases c₀
  simp_all [bodyPostS, results, Tryd.results16]
end Go.Proofs.YtbffebcjimhapaaDoor
namespace Go.Proofs.YtbffebcjimhapaaDoor
set_option linter.unusedVariables false
set_option linter.unusedSimpArgs false
open Go.ChangeShapes Go.WideShapes Go.ChangeAt Go.RowKit

/-- A program whose function k may be. -/
structure FunGood (p : PrR) (k : Nat) (f : FuR) : Prop where
  lt : k < p.funs.length
  get : p.funs.getD k default = f
  s0 : 0 ≤ f.sig
  s1 : f.sig < p.types.length
  b0 : 1 ≤ f.blocks.length
  b1 : f.blocks.length ≤ 16
  many : manyB (f.blocks.map BlR.data) ≤ 128
theorem asked_ok {p : PrR} {f : Int} (h : askedP p.data f = 0) : ∃ k : Nat, f = k ∧ ∃ r, FunGood p k r := by
  unfold askedP at h
  by_cases hc : checkP p.data = 0
  · rw [if_neg (by simpa using hc)] at h
    by_cases hi : inB f p.data.funs.length = true
    · have hi2 := inB_iff.1 hi
      have hl : p.data.funs.length = p.funs.length := List.length_map ..
      rw [hl] at hi2
      have hs := check_split p rfl
      rw [hc] at hs
      by_cases ht : checkT (tbl p.types) = 0
      · rw [if_neg (by simpa using ht)] at hs
        by_cases ha : (1 ≤ p.funs.length ∧ p.funs.length ≤ 8) ∧ p.funs.all (funOk p) = true
        · have hk : f.toNat < p.funs.length := by omega
          have hf := List.all_eq_true.1 ha.2 _ (mem_getD (d := default) hk)
          unfold funOk at hf
          rw [fun_split, Bool.and_eq_true] at hf
          have hh := hf.1
          unfold headB at hh
          rw [Bool.and_eq_true, inB_iff, Bool.and_eq_true, Bool.and_eq_true, decide_eq_true_eq, decide_eq_true_eq, decide_eq_true_eq] at hh
          obtain ⟨⟨s0, s1⟩, _, ⟨b0, b1⟩, m0⟩ := hh
          rw [show p.data.types.length = p.types.length from tbl_len _] at s1
          rw [show (p.funs.getD f.toNat default).data.blocks.length = (p.funs.getD f.toNat default).blocks.length from List.length_map ..] at b0 b1
          exact ⟨f.toNat, by omega, _, ⟨hk, rfl, s0, s1, b0, b1, m0⟩⟩
        · rw [if_neg ha] at hs
          cases hs
      · rw [if_pos (by simpa using ht)] at hs
        exact absurd hs.symm ht
    · rw [if_neg hi] at h
      cases h
  · rw [if_pos (by simpa using hc)] at h
    exact absurd h hc
theorem fun_at {p : PrR} {k : Nat} {f : FuR} (h : FunGood p k f) : funAt p.data (k : Int) = f.data := by
  unfold funAt
  rw [Int.toNat_natCast]
  show (p.funs.map FuR.data).getD k default = _
  rw [map_getD FuR.data p.funs h.lt, h.get]
theorem pars_at {p : PrR} {k : Nat} {f : FuR} (h : FunGood p k f) : parsP p.data f.data = (p.types.getD f.sig.toNat default).parts.length := by
  unfold parsP
  have h0 := h.s0
  have h1 := h.s1
  have : p.data.types.getD f.data.sig.toNat default = (p.types.getD f.sig.toNat default).data := tbl_at (show f.sig.toNat < _ by omega)
  rw [this]
  rfl
theorem BlksAt.take {w : World} {A : Option Addr} {c : Nat} {rows : List BlR} (h : BlksAt w A c rows) {n : Nat} (hn : n ≤ rows.length) : BlksAt w A c (rows.take n) := by
  have hlen : (rows.take n).length = n := by rw [List.length_take]; omega
  refine ⟨⟨by rw [hlen]; exact Nat.le_trans hn h.hdr.fit, h.hdr.cap, fun e => ⟨by have := (h.hdr.nil e).1; rw [hlen]; omega, (h.hdr.nil e).2⟩⟩, ?_, fun r hr => h.ok r (List.mem_of_mem_take hr)⟩
  rw [hlen]
  intro hp
  obtain ⟨b, off, hA, h1, h2, hc⟩ := h.cells (by omega)
  refine ⟨b, off, hA, h1, h2, fun i hi j hj => ?_⟩
  have := hc i (by omega) j hj
  rw [this]
  show some ((rows.getD i default).cell j) = some (((rows.take n).getD i default).cell j)
  rw [List.getD_eq_getElem?_getD, List.getD_eq_getElem?_getD, List.getElem?_take_of_lt hi]
end Go.Proofs.YtbffebcjimhapaaDoor
namespace Go.Proofs.YtbffebcjimhapaaDoor
set_option linter.unusedVariables false
set_option linter.unusedSimpArgs false
open Go.ChangeShapes Go.WideShapes Go.ChangeAt Go.RowKit

theorem where_hit (l : List PBlk) (base i k : Nat) (hi : i < l.length) (hk : k < (l.getD i default).ins.length) : whereB l base (manyB (l.take i) + k) = (base + i, k) := by
  induction l generalizing base i with
  | nil => cases hi
  | cons b l ih =>
    cases i with
    | zero =>
      have hk' : k < b.ins.length := hk
      show (if manyB [] + k < b.ins.length then (base, manyB [] + k) else _) = _
      rw [show manyB [] + k = k from Nat.zero_add k, if_pos hk', Nat.add_zero]
    | succ i =>
      have hm : manyB ((b :: l).take (i + 1)) = b.ins.length + manyB (l.take i) := by
        show ((b :: l.take i).map fun b => b.ins.length).sum = _
        rw [List.map_cons, List.sum_cons]
        rfl
      rw [hm]
      show (if b.ins.length + manyB (l.take i) + k < b.ins.length then _ else whereB l (base + 1) (b.ins.length + manyB (l.take i) + k - b.ins.length)) = _
      rw [if_neg (by omega), show b.ins.length + manyB (l.take i) + k - b.ins.length = manyB (l.take i) + k by omega, ih (base + 1) i (by simpa using hi) hk]
      congr 1
      omega
/-- Where an instruction stands: the block and the place, else -1 and the register. -/
def whereI (pars : Nat) (l : List PBlk) (r : Int) : Int × Int :=
  if pars ≤ r ∧ r < (pars + manyB l : Nat) then (((whereB l 0 (r.toNat - pars)).1 : Nat), ((whereB l 0 (r.toNat - pars)).2 : Nat)) else (-1, r)
theorem many_full {l : List PBlk} {n : Nat} (h : l.length ≤ n) : manyB (l.take n) = manyB l := by rw [List.take_of_length_le h]
theorem blk_ins {rows : List BlR} {i : Nat} (h : i < rows.length) {b : BlR} (hb : rows.getD i default = b) : ((rows.map BlR.data).getD i default).ins.length = b.ins.length := by
  rw [map_getD BlR.data rows h, hb]
  exact List.length_map ..
end Go.Proofs.YtbffebcjimhapaaDoor
namespace Go.Proofs.YtbffebcjimhapaaDoor
set_option linter.unusedVariables false
set_option linter.unusedSimpArgs false
open Go.ChangeShapes Go.WideShapes Go.ChangeAt Go.RowKit

theorem place_in {p : PrR} {k : Nat} {f : FuR} (hg : FunGood p k f) (h0 : askedP p.data k = 0) (r : Int) : placeE p.data k r = if inB r (regsP p.data f.data) then ((whereI (parsP p.data f.data) (f.blocks.map BlR.data) r).1, (whereI (parsP p.data f.data) (f.blocks.map BlR.data) r).2, 0) else (0, 0, 2) := by
  unfold placeE
  rw [if_neg (by simpa using h0), fun_at hg]
  by_cases hi : inB r (regsP p.data f.data) = true
  · rw [if_pos hi, if_pos hi]
    obtain ⟨r0, r1⟩ := inB_iff.1 hi
    unfold whereI
    by_cases hp : r < parsP p.data f.data
    · rw [if_pos hp, if_neg (by omega)]
    · rw [if_neg hp, if_pos ⟨by omega, r1⟩]
      rfl
  · rw [if_neg hi, if_neg hi]
theorem reg_in {p : PrR} {k : Nat} {f : FuR} (hg : FunGood p k f) (h0 : askedP p.data k = 0) (b i : Int) : regE p.data k b i = if inB b f.blocks.length && inB i (f.blocks.getD b.toNat default).ins.length then (((parsP p.data f.data + manyB ((f.blocks.map BlR.data).take b.toNat) + i.toNat : Nat) : Int), 0) else (0, 2) := by
  unfold regE
  rw [if_neg (by simpa using h0), fun_at hg]
  rw [show f.data.blocks.length = f.blocks.length from List.length_map ..]
  by_cases hb : inB b f.blocks.length = true
  · obtain ⟨b0, b1⟩ := inB_iff.1 hb
    have hk : b.toNat < f.blocks.length := by omega
    rw [show ((f.data.blocks.getD b.toNat default).ins.length) = (f.blocks.getD b.toNat default).ins.length from blk_ins hk rfl]
    rfl
  · rw [Bool.not_eq_true] at hb
    rw [hb]
    rfl
end Go.Proofs.YtbffebcjimhapaaDoor
