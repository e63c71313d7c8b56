/-
  The program's Twin of programs.
-/
import Derived.Test.YtcbhmpkginebaaaDoorMg14
import Derived.Test.YtcbhmpkginebaaaDoorMfShHalf
import Derived.Test.YtcbhmpkginebaaaDoorMfTypTwinP
import Derived.Test.YtcbhmpkginebaaaDoorMfHeldT
import Derived.Outline
namespace Go.Proofs.YtcbhmpkginebaaaDoor
set_option linter.unusedVariables false
set_option linter.unusedSimpArgs false
open Go.ChangeShapes Go.WideShapes Go.ChangeAt Go.RowKit

theorem HalfF.move {w w' : World} {lo c n m : Nat} {A : Option Addr} {src cur : List FuR} (h : HalfF w lo A c src cur n m) {k : Nat} {r : FuR} (hn : n ≤ k) (hm : m ≤ k + 1) (hs : Spare 55 w w') (hr : w'.ownsRow lo 55 2 (.slice A src.length c) src.length ((cur.set k r).flatMap FuR.cells2)) : HalfF w' lo A c src (cur.set k r) n (k + 1) :=
  ⟨by rw [List.length_set]; exact h.len, hr, fun i hi => (by rw [set_getD_other (by omega)]; exact ⟨OwnBls.spare (h.done i hi).1 hs (by decide) (by decide) (by decide), (h.done i hi).2⟩), fun i hi hl => (by rw [set_getD_other (by omega)]; exact h.rest i (by omega) hl)⟩
set_option maxRecDepth 100000 in
set_option maxHeartbeats 12800000 in
theorem ptwin6_any {w : World} {p : PrR} (h : ProgIn w p) (hl : PrLim p) (htl : p.types.length ≤ 1000) :
    Calls Tryd.prog 28 #[p.val] w fun e w' => ∃ x : PrR, e = .returned x.val ∧ OwnPr w' w.heap.size x ∧ x.data = p.data ∧ Below w.heap.size w w' := by
  have HP := Lib.hid h
  have HL := Lib.hid hl
  have hfm := hl.many
  have HTT := Lib.hid (fun W (hb : Below w.heap.size w W) => ptwin_any (w := W) ⟨(h.on hb).types, hl.parts⟩ htl)
  have HCF := Lib.hid (fun W (hb : Below w.heap.size w W) => cloneF_any (h.on hb).funs (by omega))
  obtain ⟨ta, tc, types, fa, fc, funs⟩ := p
  unfold PrR.val at *
  dsimp only at *
  have HB1 : Hid (Below w.heap.size w ((w.alloc (.cells #[.slice ta types.length tc, .slice fa funs.length fc] 35)).alloc (.cells #[.slice none 0 0, .slice none 0 0] 35))) := Lib.hid (((Below.refl _ _).alloc (Nat.le_refl _) _).alloc (by rw [World.size_alloc]; omega) _)
  have HK1 := Lib.hid ((Blk.new w 35 #[.slice ta types.length tc, .slice fa funs.length fc]).alloc (.cells #[.slice none 0 0, .slice none 0 0] 35))
  have HR1 := Lib.hid (Blk.new2 w (.cells #[.slice ta types.length tc, .slice fa funs.length fc] 35) 35 #[.slice none 0 0, .slice none 0 0])
  obtain ⟨W1, hW1⟩ : ∃ W1, (w.alloc (.cells #[.slice ta types.length tc, .slice fa funs.length fc] 35)).alloc (.cells #[.slice none 0 0, .slice none 0 0] 35) = W1 := ⟨_, rfl⟩
  rw [hW1] at HB1 HK1 HR1
  have HW1 := Lib.hid hW1
  clear h hl hW1
  go_enter Tryd.func28, Tryd.ntmps28
  go_wp2_with fail
  rw [HW1.out]
  go_upto_region 1 with fail
  go_cut [15] (fun _ wx => ∃ (At : Option Addr) (ct : Nat) (nt : List TyR) (A1 : Option Addr) (c1 : Nat), Hid (OwnTys wx w.heap.size (.slice At nt.length ct) nt) ∧ Hid (tbl nt = tbl types) ∧ Hid (wx.ownsRow w.heap.size 55 2 (.slice A1 funs.length c1) funs.length (funs.flatMap FuR.cells2)) ∧ Hid (Blk wx w.heap.size 35 #[.slice At nt.length ct, .slice A1 funs.length c1]) ∧ Hid (Blk wx (w.heap.size + 1) 35 #[.slice none 0 0, .slice none 0 0]) ∧ Hid (Below w.heap.size w wx))
  case first =>
    have p0 : W1.cell? ⟨w.heap.size, 0, none⟩ = some (.slice ta types.length tc) := HK1.out.cells 0
    have p1 : W1.cell? ⟨w.heap.size, 1, none⟩ = some (.slice fa funs.length fc) := HK1.out.cells 1
    refine wp_region_T (fun w' => w'.cell? ⟨w.heap.size, 1, none⟩ = some (.slice fa funs.length fc)) 9 (by kernel_rfl) p1 (fun hHeld => ?_)
    refine wpAnyT_take (i := 0) (by kernel_rfl) (by decide) rfl (by kernel_rfl) (by kernel_rfl) (by kernel_rfl) (fun _ _ _ h => h) (Or.inl ⟨by rfl, by (intro w hSw; (try dsimp only at hSw); go_simp; (try with_reducible rfl))⟩) (by assumption) ?_; (try simp only [Act.put, List.setIfInBounds_toArray, List.set_cons_zero, List.set_cons_succ])
    refine wpAnyT_take (i := 3) (by kernel_rfl) (by decide) rfl (by kernel_rfl) (by kernel_rfl) (by kernel_rfl) (fun _ _ _ h => h) (Or.inl ⟨by rfl, by (intro w hSw; (try dsimp only at hSw); go_simp; (try with_reducible rfl))⟩) (by assumption) ?_; (try simp only [Act.put, List.setIfInBounds_toArray, List.set_cons_zero, List.set_cons_succ])
    refine wpAnyT_take (i := 4) (by kernel_rfl) (by decide) rfl (by kernel_rfl) (by kernel_rfl) (by kernel_rfl) (fun _ _ _ h => h) (Or.inl ⟨by rfl, by (intro w hSw; (try dsimp only at hSw); go_simp; (try with_reducible rfl))⟩) (by assumption) ?_; (try simp only [Act.put, List.setIfInBounds_toArray, List.set_cons_zero, List.set_cons_succ])
    refine wpAnyT_one (i := 1) (by kernel_rfl) rfl (fun K hK => ?_)
    go_simp
    refine hK.out _ _ (fun _ => p1) (fun hH => ?_); clear hHeld hK K; have hHeld := hH (by decide); clear hH
    refine wpAnyT_one (i := 2) (by kernel_rfl) rfl (fun K hK => ?_)
    go_simp
    go_at_call 52
    refine (HTT.out _ HB1.out.drew).mono ?_
    rintro e w3 ⟨vt, nt, rfl, hownt, htt, hb3⟩
    obtain ⟨At, ct, rfl, _⟩ := hownt.form
    have hb3' : Below w.heap.size w w3 := HB1.out.drew.trans (hb3.mono HB1.out.drew.size)
    have HB3 := Lib.hid hb3'
    have HK3 := Lib.hid ((HK1.out.drew).beneath hb3)
    have HR3 := Lib.hid ((HR1.out.drew).beneath hb3)
    have HOT := Lib.hid (hownt.more (lo' := w.heap.size) HB1.out.drew.size)
    have HTD := Lib.hid htt
    have p0' : w3.cell? ⟨w.heap.size, 0, none⟩ = some (.slice ta types.length tc) := HK3.out.cells 0
    have p1' : w3.cell? ⟨w.heap.size, 1, none⟩ = some (.slice fa funs.length fc) := HK3.out.cells 1
    clear hownt htt hb3 hb3'
    refine hK.out _ _ (fun _ => p1') (fun hH => ?_); clear hHeld hK K; have hHeld := hH (by decide); clear hH
    refine wpAnyT_take (i := 6) (by kernel_rfl) (by decide) rfl (by kernel_rfl) (by kernel_rfl) (by kernel_rfl) (fun _ _ _ h => h) (Or.inl ⟨by rfl, by (intro w hSw; (try dsimp only at hSw); go_simp; (try with_reducible rfl))⟩) (by assumption) ?_; (try simp only [Act.put, List.setIfInBounds_toArray, List.set_cons_zero, List.set_cons_succ])
    refine wpAnyT_one (i := 5) (by kernel_rfl) rfl (fun K hK => ?_)
    go_simp
    go_at_call 53
    refine (HCF.out _ HB3.out).mono ?_
    rintro e w4 ⟨A1, c1, rfl, hown, hb4⟩
    have HB4 := Lib.hid (HB3.out.trans (hb4.mono HB3.out.size))
    have HK4 := Lib.hid (HK3.out.beneath hb4)
    have HR4 := Lib.hid (HR3.out.beneath hb4)
    have HOT4 := Lib.hid (HOT.out.keep hb4)
    have HOF4 := Lib.hid (ownsRow_more hown HB3.out.size)
    have q0 : w4.cell? ⟨w.heap.size, 0, none⟩ = some (.slice ta types.length tc) := HK4.out.cells 0
    have q1 : w4.cell? ⟨w.heap.size, 1, none⟩ = some (.slice fa funs.length fc) := HK4.out.cells 1
    have f0 : w4.frozen? ⟨w.heap.size, 0, none⟩ = false := HK4.out.free 0
    have f1 : w4.frozen? ⟨w.heap.size, 1, none⟩ = false := HK4.out.free 1
    clear hown hb4
    refine hK.out _ _ (fun _ => q1) (fun hH => ?_); clear hHeld hK K; have hHeld := hH (by decide); clear hH
    refine wpAnyT_one (i := 7) (by kernel_rfl) rfl (fun K hK => ?_)
    go_simp
    have HK5 := Lib.hid (HK4.out.put 0 (.slice At nt.length ct))
    have q1' : (w4.setCell ⟨w.heap.size, 0, none⟩ (.slice At nt.length ct)).cell? ⟨w.heap.size, 1, none⟩ = some (.slice fa funs.length fc) := HK5.out.cells 1
    have f1' : (w4.setCell ⟨w.heap.size, 0, none⟩ (.slice At nt.length ct)).frozen? ⟨w.heap.size, 1, none⟩ = false := HK5.out.free 1
    refine hK.out _ _ (fun _ => q1') (fun hH => ?_); clear hHeld hK K; have hHeld := hH (by decide); clear hH
    refine wpAnyT_take (i := 8) (by kernel_rfl) (by decide) rfl (by kernel_rfl) (by kernel_rfl) (by kernel_rfl) (fun _ _ _ h => h) (Or.inl ⟨by rfl, by (intro w hSw; (try dsimp only at hSw); go_simp; (try with_reducible rfl))⟩) (by assumption) ?_; (try simp only [Act.put, List.setIfInBounds_toArray, List.set_cons_zero, List.set_cons_succ])
    refine wpAnyT_one (i := 9) (by kernel_rfl) rfl (fun K hK => ?_)
    go_simp
    refine hK.out _ _ (fun e => absurd rfl e) (fun hH => ?_); refine wpAnyT_done (by kernel_rfl) ?_ _; clear hHeld hK K hH
    have HK6 : Hid (Blk ((w4.setCell ⟨w.heap.size, 0, none⟩ (.slice At nt.length ct)).setCell ⟨w.heap.size, 1, none⟩ (.slice A1 funs.length c1)) w.heap.size 35 #[.slice At nt.length ct, .slice A1 funs.length c1]) := Lib.hid (HK5.out.put 1 _)
    have HS6 : Hid (Spare 35 w4 ((w4.setCell ⟨w.heap.size, 0, none⟩ (.slice At nt.length ct)).setCell ⟨w.heap.size, 1, none⟩ (.slice A1 funs.length c1))) := Lib.hid ((Spare.set HK4.out _).trans (Spare.set HK5.out _))
    have HB6 : Hid (Below w.heap.size w ((w4.setCell ⟨w.heap.size, 0, none⟩ (.slice At nt.length ct)).setCell ⟨w.heap.size, 1, none⟩ (.slice A1 funs.length c1))) := Lib.hid ((HB4.out.setCell (Nat.le_refl _) _).setCell (Nat.le_refl _) _)
    have HR6 : Hid (Blk ((w4.setCell ⟨w.heap.size, 0, none⟩ (.slice At nt.length ct)).setCell ⟨w.heap.size, 1, none⟩ (.slice A1 funs.length c1)) (w.heap.size + 1) 35 #[.slice none 0 0, .slice none 0 0]) := Lib.hid ((HR4.out.far (by show w.heap.size + 1 ≠ w.heap.size; omega) _).far (by show w.heap.size + 1 ≠ w.heap.size; omega) _)
    have HT6 := Lib.hid (HOT4.out.spare HS6.out (by decide) (by decide))
    have HF6 := Lib.hid (ownsRow_spare HOF4.out HS6.out (by decide))
    go_wp2_with fail
    go_meet
    exact ⟨At, ct, nt, A1, c1, HT6, HTD, HF6, HK6, HR6, HB6⟩
  case rest =>
    clear HB1 HK1 HR1
    obtain ⟨At, ct, nt, A1, c1, HOT, HTD, HOF, HKP, HRP, HB⟩ := hcut
    have p1 := HKP.out.cells 1
    go_wp2_with fail
    go_loopw [21] (fun i wr => ∃ (k : Nat) (cur : List FuR), k ≤ funs.length ∧ i = .int .i64 k ∧ Hid (HalfF wr w.heap.size A1 c1 funs cur k k) ∧ Hid (OwnTys wr w.heap.size (.slice At nt.length ct) nt) ∧ Hid (Blk wr w.heap.size 35 #[.slice At nt.length ct, .slice A1 funs.length c1]) ∧ Hid (Blk wr (w.heap.size + 1) 35 #[.slice none 0 0, .slice none 0 0]) ∧ Hid (Below w.heap.size w wr)) (fun i _ => funs.length - (intOf i).toNat)
    case atStart => exact ⟨0, funs, Nat.zero_le _, rfl, Lib.hid (HalfF.zero HOF.out), HOT, HKP, HRP, HB⟩
    case round =>
      clear p1 HOT HOF HKP HRP HB
      obtain ⟨k, cur, hk, rfl, HF, HOT, HKP, HRP, HB⟩ := hrel
      obtain ⟨wa, rfl⟩ : ∃ wa : World, wa = wr := ⟨_, rfl⟩
      by_cases hlt : k < funs.length
      · obtain ⟨gA, rfl, hgA, hgc, hgz, hcell⟩ := HF.out.at_ hlt
        have hcr := HF.out.rest k (Nat.le_refl _) hlt
        obtain ⟨r, hr⟩ : ∃ r, funs.getD k default = r := ⟨_, rfl⟩
        rw [hcr, hr] at hcell
        have c0 : wa.cell? ⟨gA, k * 2, none⟩ = some (.int .i64 r.sig) := hcell 0 (by omega)
        have c1' : wa.cell? ⟨gA, k * 2 + 1, none⟩ = some (.slice r.ba r.blocks.length r.bc) := hcell 1 (by omega)
        have hrm : r ∈ funs := by rw [← hr]; exact mem_getD (d := default) hlt
        have HRO := Lib.hid (HP.out.funs.ok r hrm)
        have HRL := Lib.hid (HL.out.funs r hrm)
        have HRR := Lib.hid hr
        have HCR := Lib.hid hcr
        have HG := Lib.hid (And.intro hgA (And.intro hgc hgz))
        have HLT := Lib.hid hlt
        have hglt : gA < wa.heap.size := World.block_lt_of_cell? wa _ c0
        have hbl := HRL.out.blocks
        have hk0 : (0 : Int) ≤ (k : Int) := Int.natCast_nonneg _
        have hk1 : (k : Int) < (funs.length : Int) := by omega
        obtain ⟨sig, ba, bc, bls⟩ := r
        dsimp only at *
        clear hcell hcr hr hrm hgA hgc hgz hlt
        go_wp2_with fail
        go_upto_region 5 with fail
        have HCB := Lib.hid (fun W (hb : Below wa.heap.size wa W) => cloneB_any ((HRO.out.on HB.out).blocks.on hb) (Nat.le_trans hbl (by omega)))
        have hnb : Below wa.heap.size wa (wa.alloc (.cells #[.int .i64 sig, .slice ba bls.length bc] 55)) := (Below.refl _ _).alloc (Nat.le_refl _) _
        obtain ⟨wx, hwx⟩ : ∃ wx, wa.alloc (.cells #[.int .i64 sig, .slice ba bls.length bc] 55) = wx := ⟨_, rfl⟩
        rw [hwx] at hnb ⊢
        have HNB := Lib.hid hnb
        have HFB := Lib.hid (show Blk wx wa.heap.size 55 #[.int .i64 sig, .slice ba bls.length bc] from hwx ▸ Blk.new wa _ _)
        clear hnb hwx c0 c1'
        have p1 : wx.cell? ⟨w.heap.size, 1, none⟩ = some (.slice (some ⟨gA, 0, none⟩) funs.length c1) := (HKP.out.beneath HNB.out).cells 1
        have f1 : wx.cell? ⟨wa.heap.size, 1, none⟩ = some (.slice ba bls.length bc) := HFB.out.cells 1
        refine wp_region_T (fun w' => w'.cell? ⟨w.heap.size, 1, none⟩ = some (.slice (some ⟨gA, 0, none⟩) funs.length c1) ∧ w'.cell? ⟨wa.heap.size, 1, none⟩ = some (.slice ba bls.length bc)) 8 (by kernel_rfl) ⟨p1, f1⟩ (fun hHeld => ?_)
        refine wpAnyT_take (i := 0) (by kernel_rfl) (by decide) rfl (by kernel_rfl) (by kernel_rfl) (by kernel_rfl) (fun _ _ _ h => h) (Or.inl ⟨by rfl, by (intro w hSw; (try dsimp only at hSw); go_simp; (try with_reducible rfl))⟩) (by assumption) ?_; (try simp only [Act.put, List.setIfInBounds_toArray, List.set_cons_zero, List.set_cons_succ])
        refine wpAnyT_take (i := 1) (by kernel_rfl) (by decide) rfl (by kernel_rfl) (by kernel_rfl) (by kernel_rfl) (fun _ _ _ h => h) (Or.inl ⟨by rfl, by (intro w hSw; (try dsimp only at hSw); go_simp; (try with_reducible rfl))⟩) (by assumption) ?_; (try simp only [Act.put, List.setIfInBounds_toArray, List.set_cons_zero, List.set_cons_succ])
        refine wpAnyT_take (i := 2) (by kernel_rfl) (by decide) rfl (by kernel_rfl) (by kernel_rfl) (by kernel_rfl) (fun _ _ _ h => h) (Or.inl ⟨by rfl, by (intro w hSw; (try dsimp only at hSw); go_simp; (try with_reducible rfl))⟩) (by assumption) ?_; (try simp only [Act.put, List.setIfInBounds_toArray, List.set_cons_zero, List.set_cons_succ])
        refine wpAnyT_take (i := 3) (by kernel_rfl) (by decide) rfl (by kernel_rfl) (by kernel_rfl) (by kernel_rfl) (fun _ _ _ h => h) (Or.inl ⟨by rfl, by (intro w hSw; (try dsimp only at hSw); go_simp; (try with_reducible rfl))⟩) (by assumption) ?_; (try simp only [Act.put, List.setIfInBounds_toArray, List.set_cons_zero, List.set_cons_succ])
        refine wpAnyT_take (i := 4) (by kernel_rfl) (by decide) rfl (by kernel_rfl) (by kernel_rfl) (by kernel_rfl) (fun _ _ _ h => h) (Or.inl ⟨by rfl, by (intro w hSw; (try dsimp only at hSw); go_simp; (try with_reducible rfl))⟩) (by assumption) ?_; (try simp only [Act.put, List.setIfInBounds_toArray, List.set_cons_zero, List.set_cons_succ])
        refine wpAnyT_one (i := 5) (by kernel_rfl) rfl (fun K hK => ?_)
        go_simp
        go_at_call 54
        refine (HCB.out _ HNB.out.drew).mono ?_
        rintro e w3 ⟨A2, c2, rfl, hown, hb3⟩
        have HB3 := Lib.hid (HNB.out.drew.trans (hb3.mono HNB.out.drew.size))
        have HOB := Lib.hid (ownsRow_more hown HNB.out.drew.size)
        have p1' : w3.cell? ⟨w.heap.size, 1, none⟩ = some (.slice (some ⟨gA, 0, none⟩) funs.length c1) := (HKP.out.beneath HB3.out).cells 1
        have f1' : w3.cell? ⟨wa.heap.size, 1, none⟩ = some (.slice ba bls.length bc) := (HFB.out.drew.beneath hb3).cells 1
        have HF3 := Lib.hid (HF.out.keep HB3.out)
        have HFB3 := Lib.hid (HFB.out.drew.beneath hb3)
        clear hown hb3
        refine hK.out _ _ (fun _ => ⟨p1', f1'⟩) (fun hH => ?_); clear hHeld hK K; have hHeld := hH (by decide); clear hH
        refine wpAnyT_one (i := 6) (by kernel_rfl) rfl (fun K hK => ?_)
        go_simp
        refine hK.out _ _ (fun _ => hHeld) (fun hH => ?_); clear hHeld hK K; have hHeld := hH (by decide); clear hH
        refine wpAnyT_one (i := 7) (by kernel_rfl) rfl (fun K hK => ?_)
        go_simp
        refine hK.out _ _ (fun _ => hHeld) (fun hH => ?_); clear hHeld hK K; have hHeld := hH (by decide); clear hH
        refine wpAnyT_one (i := 8) (by kernel_rfl) rfl (fun K hK => ?_)
        have g1 : w3.cell? ⟨gA, k * 2 + 1, none⟩ = some (.slice ba bls.length bc) := by
          obtain ⟨g, hA, _, _, _, hc⟩ := HF3.out.at_ HLT.out
          injection hA with hA
          injection hA with hA _ _
          subst hA
          have := hc 1 (by omega)
          rw [HCR.out, HRR.out] at this
          exact this
        have g2 : w3.frozen? ⟨gA, k * 2 + 1, none⟩ = false := by
          obtain ⟨g, hA, _, _, hz, _⟩ := HF3.out.at_ HLT.out
          injection hA with hA
          injection hA with hA _ _
          subst hA
          exact hz _
        go_simp
        refine hK.out _ _ (fun e => absurd rfl e) (fun hH => ?_); refine wpAnyT_done (by kernel_rfl) ?_ _; clear hHeld hK K hH
        obtain ⟨csA, hcsA⟩ := HG.out.2.1
        have HSP0 := Lib.hid (Only.spare (t := 55) (g := gA) (w := wa) (w' := w3.setCell ⟨gA, k * 2 + 1, none⟩ (.slice A2 bls.length c2)) (((Only.refl gA wa).below HB3.out (Nat.le_refl _)).set _ _) hcsA)
        have HON := Lib.hid ((((Only.refl gA wa).below HB3.out (Nat.le_refl _)).set (k * 2 + 1) (.slice A2 bls.length c2)))
        have HCSA := Lib.hid hcsA
        have HB4 : Hid (Below w.heap.size w (w3.setCell ⟨gA, k * 2 + 1, none⟩ (.slice A2 bls.length c2))) := Lib.hid ((HB.out.trans (HB3.out.mono HB.out.size)).setCell HG.out.1 _)
        have HF4 := Lib.hid (HF3.out.stored (r' := ⟨sig, A2, c2, bls⟩) (j := 1) (u := .slice A2 bls.length c2) HLT.out (by omega) (by omega) (by obtain ⟨g, hA, _, hc, _⟩ := HF3.out.at_ HLT.out; injection hA with hA; injection hA with hA _ _; subst hA; exact hc) (by rw [HCR.out, HRR.out]; rfl))
        have HOB4 : Hid ((w3.setCell ⟨gA, k * 2 + 1, none⟩ (.slice A2 bls.length c2)).ownsRow wa.heap.size 58 5 (.slice A2 bls.length c2) bls.length (bls.flatMap BlR.cells5)) := by
          obtain ⟨g, hA, _, ⟨cs3, hc3⟩, _⟩ := HF3.out.at_ HLT.out
          injection hA with hA
          injection hA with hA _ _
          subst hA
          exact Lib.hid (ownsRow_spare HOB.out (Spare.set hc3 _) (by decide))
        have f4 : (w3.setCell ⟨gA, k * 2 + 1, none⟩ (.slice A2 bls.length c2)).cell? ⟨wa.heap.size, 1, none⟩ = some (.slice ba bls.length bc) := (HFB3.out.far (by show wa.heap.size ≠ gA; omega) _).cells 1
        clear g1 g2 p1 f1 p1' f1' hcsA HF3 HOB
        go_wp2_with fail
        go_loopw [37] (fun i wb => ∃ (j : Nat) (curB : List BlR), j ≤ bls.length ∧ i = .int .i64 j ∧ Hid (HalfB wb wa.heap.size A2 c2 bls curB j j) ∧ Hid (wb.ownsRow w.heap.size 55 2 (.slice (some ⟨gA, 0, none⟩) funs.length c1) funs.length ((cur.set k ⟨sig, A2, c2, bls⟩).flatMap FuR.cells2)) ∧ Hid (Only gA wa wb) ∧ Hid (Below w.heap.size w wb)) (fun i _ => bls.length - (intOf i).toNat)
        case atStart => exact ⟨0, bls, Nat.zero_le _, rfl, Lib.hid (HalfB.zero HOB4.out), Lib.hid HF4.out.row, HON, HB4⟩
        case round =>
          clear f4 HOB4 HON HB4 HSP0
          obtain ⟨j, curB, hj, rfl, HBB, HFR, HON, HB5⟩ := hrel
          obtain ⟨wb, rfl⟩ : ∃ wb : World, wb = wr := ⟨_, rfl⟩
          have HSPB := Lib.hid (HON.out.spare HCSA.out)
          have HFW := Lib.hid (HF.out.move (k := k) (Nat.le_refl _) (by omega) HSPB.out HFR.out)
          by_cases hlt : j < bls.length
          · obtain ⟨b2, off2, r2, rfl, hb2, ⟨e0, e1, e2, e3, e4⟩, hr2, HE2⟩ := ((HRO.out.on HB5.out).blocks).elem hlt
            have hrm2 : r2 ∈ bls := by have := mem_getD (d := (default : BlR)) hlt; rwa [HE2.out] at this
            have hil := HRL.out.ins r2 hrm2
            have HAL := Lib.hid (HRL.out.args r2 hrm2)
            have HFL := Lib.hid (HRL.out.froms r2 hrm2)
            have HR2 := Lib.hid hr2
            have HLT2 := Lib.hid hlt
            have hj0 : (0 : Int) ≤ (j : Int) := Int.natCast_nonneg _
            have hj1 : (j : Int) < (bls.length : Int) := by omega
            have HWS := Lib.hid HON.out.size
            obtain ⟨ia, ic, ins, kd, ea, et, el⟩ := r2
            dsimp only at *
            have HCI := Lib.hid (fun W (hb : Below wb.heap.size wb W) => cloneI_any (HR2.out.ins.on hb) hil)
            have HNB2 := Lib.hid ((Below.refl wb.heap.size wb).alloc (Nat.le_refl _) (.cells #[.slice ia ins.length ic, .int .u8 kd, .int .i64 ea, .int .i64 et, .int .i64 el] 58))
            clear hr2 hrm2 hlt hb2
            go_wp2_with fail
            refine (HCI.out _ HNB2.out).mono ?_
            rintro e w4 ⟨A3, c3, rfl, hown, hb4⟩
            have HB6 := Lib.hid (HNB2.out.trans (hb4.mono HNB2.out.size))
            have HOI := Lib.hid (ownsRow_more hown HNB2.out.size)
            clear hown hb4 e0 e1 e2 e3 e4
            go_wp2_with fail
            go_loopw [47] (fun i wi => ∃ (n : Nat) (curI : List InR), n ≤ ins.length ∧ i = .int .i64 n ∧ Hid (HalfI wi wb.heap.size A3 c3 ins curI n n) ∧ Hid (Below wb.heap.size wb wi)) (fun i _ => ins.length - (intOf i).toNat)
            case atStart => exact ⟨0, ins, Nat.zero_le _, rfl, Lib.hid (HalfI.zero HOI.out), HB6⟩
            case round =>
              clear HOI HB6
              obtain ⟨n, curI, hn, rfl, HI, HB7⟩ := hrel
              obtain ⟨wi, rfl⟩ : ∃ wi : World, wi = wr := ⟨_, rfl⟩
              by_cases hlt : n < ins.length
              · obtain ⟨gI, rfl, hgI, hgc, hgz, hcell⟩ := HI.out.at_ hlt
                have hcr := HI.out.rest n (Nat.le_refl _) hlt
                obtain ⟨x, hx⟩ : ∃ x, ins.getD n default = x := ⟨_, rfl⟩
                rw [hcr, hx] at hcell
                have d0 : wi.cell? ⟨gI, n * 7, none⟩ = some (.int .u8 x.op) := hcell 0 (by omega)
                have d1 : wi.cell? ⟨gI, n * 7 + 1, none⟩ = some (.int .i64 x.ty) := hcell 1 (by omega)
                have d2 : wi.cell? ⟨gI, n * 7 + 2, none⟩ = some (.int .i64 x.a) := hcell 2 (by omega)
                have d3 : wi.cell? ⟨gI, n * 7 + 3, none⟩ = some (.int .i64 x.b) := hcell 3 (by omega)
                have d4 : wi.cell? ⟨gI, n * 7 + 4, none⟩ = some (.int .i64 x.n) := hcell 4 (by omega)
                have d5 : wi.cell? ⟨gI, n * 7 + 5, none⟩ = some (.slice x.aa x.args.length x.ac) := hcell 5 (by omega)
                have d6 : wi.cell? ⟨gI, n * 7 + 6, none⟩ = some (.slice x.fa x.from_.length x.fc) := hcell 6 (by omega)
                have hxm : x ∈ ins := by rw [← hx]; exact mem_getD (d := default) hlt
                have hxo := (HR2.out.ins.ok x hxm).on HB7.out
                have HCA := Lib.hid (fun W (hb : Below wi.heap.size wi W) => cloneInts_any (hxo.ahdr) ((hxo.on hb).args) (Nat.le_refl _) (HAL.out x hxm))
                have HCF2 := Lib.hid (fun W (hb : Below wi.heap.size wi W) => cloneInts_any (hxo.fhdr) ((hxo.on hb).from_) (Nat.le_refl _) (HFL.out x hxm))
                have HOP := Lib.hid hxo.op
                have HXX := Lib.hid hx
                have HCX := Lib.hid hcr
                have HGI := Lib.hid (And.intro hgI (And.intro hgc hgz))
                have HLT3 := Lib.hid hlt
                have hglt : gI < wi.heap.size := World.block_lt_of_cell? wi _ d0
                have hn0 : (0 : Int) ≤ (n : Int) := Int.natCast_nonneg _
                have hn1 : (n : Int) < (ins.length : Int) := by omega
                obtain ⟨op, ty, xa, xb, xn, aa, ac, args, xf, xfc, from_⟩ := x
                dsimp only at *
                clear hcell hcr hx hxm hxo hgI hgc hgz hlt
                go_wp2_with fail
                go_upto_region 13 with fail
                obtain ⟨wx, hwx⟩ : ∃ wx, wi.alloc (.cells #[.int .u8 op, .int .i64 ty, .int .i64 xa, .int .i64 xb, .int .i64 xn, .slice aa args.length ac, .slice xf from_.length xfc] 24) = wx := ⟨_, rfl⟩
                have hnb : Below wi.heap.size wi wx := hwx ▸ ((Below.refl _ _).alloc (Nat.le_refl _) _)
                have HNB := Lib.hid hnb
                have HXB := Lib.hid (show Blk wx wi.heap.size 24 #[.int .u8 op, .int .i64 ty, .int .i64 xa, .int .i64 xb, .int .i64 xn, .slice aa args.length ac, .slice xf from_.length xfc] from hwx ▸ Blk.new wi _ _)
                rw [hwx]
                clear hnb hwx d0 d1 d2 d3 d4 d5 d6
                have x5 : wx.cell? ⟨wi.heap.size, 5, none⟩ = some (.slice aa args.length ac) := HXB.out.cells 5
                have x6 : wx.cell? ⟨wi.heap.size, 6, none⟩ = some (.slice xf from_.length xfc) := HXB.out.cells 6
                refine wp_region_T (fun w' => w'.cell? ⟨wi.heap.size, 5, none⟩ = some (.slice aa args.length ac) ∧ w'.cell? ⟨wi.heap.size, 6, none⟩ = some (.slice xf from_.length xfc)) 15 (by kernel_rfl) ⟨x5, x6⟩ (fun hHeld => ?_)
                refine wpAnyT_take (i := 0) (by kernel_rfl) (by decide) rfl (by kernel_rfl) (by kernel_rfl) (by kernel_rfl) (fun _ _ _ h => h) (Or.inl ⟨by rfl, by (intro w hSw; (try dsimp only at hSw); go_simp; (try with_reducible rfl))⟩) (by assumption) ?_; (try simp only [Act.put, List.setIfInBounds_toArray, List.set_cons_zero, List.set_cons_succ])
                refine wpAnyT_take (i := 1) (by kernel_rfl) (by decide) rfl (by kernel_rfl) (by kernel_rfl) (by kernel_rfl) (fun _ _ _ h => h) (Or.inl ⟨by rfl, by (intro w hSw; (try dsimp only at hSw); go_simp; (try with_reducible rfl))⟩) (by assumption) ?_; (try simp only [Act.put, List.setIfInBounds_toArray, List.set_cons_zero, List.set_cons_succ])
                refine wpAnyT_take (i := 2) (by kernel_rfl) (by decide) rfl (by kernel_rfl) (by kernel_rfl) (by kernel_rfl) (fun _ _ _ h => h) (Or.inl ⟨by rfl, by (intro w hSw; (try dsimp only at hSw); go_simp; (try with_reducible rfl))⟩) (by assumption) ?_; (try simp only [Act.put, List.setIfInBounds_toArray, List.set_cons_zero, List.set_cons_succ])
                refine wpAnyT_take (i := 3) (by kernel_rfl) (by decide) rfl (by kernel_rfl) (by kernel_rfl) (by kernel_rfl) (fun _ _ _ h => h) (Or.inl ⟨by rfl, by (intro w hSw; (try dsimp only at hSw); go_simp; (try with_reducible rfl))⟩) (by assumption) ?_; (try simp only [Act.put, List.setIfInBounds_toArray, List.set_cons_zero, List.set_cons_succ])
                refine wpAnyT_take (i := 4) (by kernel_rfl) (by decide) rfl (by kernel_rfl) (by kernel_rfl) (by kernel_rfl) (fun _ _ _ h => h) (Or.inl ⟨by rfl, by (intro w hSw; (try dsimp only at hSw); go_simp; (try with_reducible rfl))⟩) (by assumption) ?_; (try simp only [Act.put, List.setIfInBounds_toArray, List.set_cons_zero, List.set_cons_succ])
                refine wpAnyT_take (i := 5) (by kernel_rfl) (by decide) rfl (by kernel_rfl) (by kernel_rfl) (by kernel_rfl) (fun _ _ _ h => h) (Or.inl ⟨by rfl, by (intro w hSw; (try dsimp only at hSw); go_simp; (try with_reducible rfl))⟩) (by assumption) ?_; (try simp only [Act.put, List.setIfInBounds_toArray, List.set_cons_zero, List.set_cons_succ])
                refine wpAnyT_take (i := 7) (by kernel_rfl) (by decide) rfl (by kernel_rfl) (by kernel_rfl) (by kernel_rfl) (fun _ _ _ h => h) (Or.inl ⟨by rfl, by (intro w hSw; (try dsimp only at hSw); go_simp; (try with_reducible rfl))⟩) (by assumption) ?_; (try simp only [Act.put, List.setIfInBounds_toArray, List.set_cons_zero, List.set_cons_succ])
                refine wpAnyT_take (i := 8) (by kernel_rfl) (by decide) rfl (by kernel_rfl) (by kernel_rfl) (by kernel_rfl) (fun _ _ _ h => h) (Or.inl ⟨by rfl, by (intro w hSw; (try dsimp only at hSw); go_simp; (try with_reducible rfl))⟩) (by assumption) ?_; (try simp only [Act.put, List.setIfInBounds_toArray, List.set_cons_zero, List.set_cons_succ])
                refine wpAnyT_one (i := 6) (by kernel_rfl) rfl (fun K hK => ?_)
                go_simp
                go_at_call 56
                refine (HCA.out _ HNB.out.drew).mono ?_
                rintro e w5 ⟨v5, rfl, hown5, hb5⟩
                obtain ⟨A4, c4, rfl, _⟩ := hown5.form
                have HB8 := Lib.hid (HNB.out.drew.trans (hb5.mono HNB.out.drew.size))
                have HXB5 := Lib.hid (HXB.out.drew.beneath hb5)
                have HO5 := Lib.hid (hown5.more HNB.out.drew.size)
                have y5 : w5.cell? ⟨wi.heap.size, 5, none⟩ = some (.slice aa args.length ac) := HXB5.out.cells 5
                have y6 : w5.cell? ⟨wi.heap.size, 6, none⟩ = some (.slice xf from_.length xfc) := HXB5.out.cells 6
                clear hown5 hb5
                refine hK.out _ _ (fun _ => ⟨y5, y6⟩) (fun hH => ?_); clear hHeld hK K; have hHeld := hH (by decide); clear hH
                refine wpAnyT_one (i := 9) (by kernel_rfl) rfl (fun K hK => ?_)
                go_simp
                go_at_call 56
                refine (HCF2.out _ HB8.out).mono ?_
                rintro e w6 ⟨v6, rfl, hown6, hb6⟩
                obtain ⟨A5, c5, rfl, _⟩ := hown6.form
                have HB9 := Lib.hid (HB8.out.trans (hb6.mono HB8.out.size))
                have HXB6 := Lib.hid (HXB5.out.beneath hb6)
                have HO6 := Lib.hid (HO5.out.keep hb6)
                have HO7 := Lib.hid (hown6.more HB8.out.size)
                have z5 : w6.cell? ⟨wi.heap.size, 5, none⟩ = some (.slice aa args.length ac) := HXB6.out.cells 5
                have z6 : w6.cell? ⟨wi.heap.size, 6, none⟩ = some (.slice xf from_.length xfc) := HXB6.out.cells 6
                have HI6 := Lib.hid (HI.out.keep HB9.out)
                clear hown6 hb6
                refine hK.out _ _ (fun _ => ⟨z5, z6⟩) (fun hH => ?_); clear hHeld hK K; have hHeld := hH (by decide); clear hH
                refine wpAnyT_one (i := 10) (by kernel_rfl) rfl (fun K hK => ?_)
                go_simp
                refine hK.out _ _ (fun _ => hHeld) (fun hH => ?_); clear hHeld hK K; have hHeld := hH (by decide); clear hH
                refine wpAnyT_one (i := 11) (by kernel_rfl) rfl (fun K hK => ?_)
                go_simp
                refine hK.out _ _ (fun _ => hHeld) (fun hH => ?_); clear hHeld hK K; have hHeld := hH (by decide); clear hH
                refine wpAnyT_one (i := 12) (by kernel_rfl) rfl (fun K hK => ?_)
                obtain ⟨csI, hcsI⟩ := HGI.out.2.1
                have hbI : Blk w6 gI 24 csI := (HB9.out.block gI hglt).trans hcsI
                have HBI := Lib.hid hbI
                have hcell := (HI6.out.at_ HLT3.out)
                obtain ⟨g, hA, _, _, hz, hc⟩ := hcell
                injection hA with hA
                injection hA with hA _ _
                subst hA
                rw [HCX.out, HXX.out] at hc
                have k5 : w6.cell? ⟨gI, n * 7 + 5, none⟩ = some (.slice aa args.length ac) := hc 5 (by omega)
                have k6 : w6.cell? ⟨gI, n * 7 + 6, none⟩ = some (.slice xf from_.length xfc) := hc 6 (by omega)
                have m5 := hz (n * 7 + 5)
                have m6 := hz (n * 7 + 6)
                clear hc hz hcsI hbI
                have HI7 := Lib.hid (HI6.out.stored (r' := ⟨op, ty, xa, xb, xn, A4, c4, args, xf, xfc, from_⟩) (j := 5) (u := .slice A4 args.length c4) HLT3.out (by omega) (by omega) ⟨csI, HBI.out⟩ (by rw [HCX.out, HXX.out]; rfl))
                have HBI7 := Lib.hid (HBI.out.put (n * 7 + 5) (.slice A4 args.length c4))
                have HI8 := Lib.hid (HI7.out.stored (r' := ⟨op, ty, xa, xb, xn, A4, c4, args, A5, c5, from_⟩) (j := 6) (u := .slice A5 from_.length c5) HLT3.out (by omega) (by omega) ⟨_, HBI7.out⟩ (by rw [set_getD_same (by rw [HI6.out.len]; exact HLT3.out)]; rfl))
                have HXB7 := Lib.hid (HXB6.out.far (p := ⟨gI, n * 7 + 5, none⟩) (by show wi.heap.size ≠ gI; omega) (.slice A4 args.length c4))
                have HSP7 := Lib.hid ((Spare.set HBI.out (j := n * 7 + 5) (.slice A4 args.length c4)).trans (Spare.set HBI7.out (j := n * 7 + 6) (.slice A5 from_.length c5)))
                have q5 : (w6.setCell ⟨gI, n * 7 + 5, none⟩ (.slice A4 args.length c4)).cell? ⟨wi.heap.size, 5, none⟩ = some (.slice aa args.length ac) := HXB7.out.cells 5
                have q6 : (w6.setCell ⟨gI, n * 7 + 5, none⟩ (.slice A4 args.length c4)).cell? ⟨wi.heap.size, 6, none⟩ = some (.slice xf from_.length xfc) := HXB7.out.cells 6
                go_simp
                refine hK.out _ _ (fun _ => ⟨q5, q6⟩) (fun hH => ?_); clear hHeld hK K; have hHeld := hH (by decide); clear hH
                refine wpAnyT_one (i := 13) (by kernel_rfl) rfl (fun K hK => ?_)
                go_simp
                refine hK.out _ _ (fun _ => hHeld) (fun hH => ?_); clear hHeld hK K; have hHeld := hH (by decide); clear hH
                refine wpAnyT_one (i := 14) (by kernel_rfl) rfl (fun K hK => ?_)
                go_simp
                refine hK.out _ _ (fun _ => hHeld) (fun hH => ?_); clear hHeld hK K; have hHeld := hH (by decide); clear hH
                refine wpAnyT_one (i := 15) (by kernel_rfl) rfl (fun K hK => ?_)
                go_simp
                refine hK.out _ _ (fun e => absurd rfl e) (fun hH => ?_); refine wpAnyT_done (by kernel_rfl) ?_ _; clear hHeld hK K hH
                have hgb : wb.heap.size ≤ gI := HGI.out.1
                have HB10 : Hid (Below wb.heap.size wb ((w6.setCell ⟨gI, n * 7 + 5, none⟩ (.slice A4 args.length c4)).setCell ⟨gI, n * 7 + 6, none⟩ (.slice A5 from_.length c5))) := Lib.hid (((HB7.out.trans (HB9.out.mono HB7.out.size)).setCell hgb _).setCell hgb _)
                have HI9 := Lib.hid (HI8.out.bump (by
                    rw [set_getD_same (by rw [List.length_set, HI6.out.len]; exact HLT3.out)]
                    have hop : op ≤ 255 := HOP.out
                    exact ⟨hop, (HO6.out.spare HSP7.out (by decide)).more HB7.out.size, (HO7.out.spare HSP7.out (by decide)).more HB7.out.size⟩) (by
                    rw [set_getD_same (by rw [List.length_set, HI6.out.len]; exact HLT3.out), HXX.out]
                    rfl))
                clear x5 x6 y5 y6 z5 z6 k5 k6 m5 m6 q5 q6
                go_wp2_with fail
                go_roundw
                case rel => exact ⟨n + 1, _, by have := HLT3.out; omega, by go_num, HI9, HB10⟩
                case measure => simp [intOf]; have := HLT3.out; omega
              · obtain rfl : n = ins.length := by omega
                obtain ⟨hOI, hDI⟩ := HI.out.all (Nat.le_refl _)
                have HOI := Lib.hid hOI
                have HDI := Lib.hid hDI
                clear hOI hDI
                obtain ⟨gB, rfl, hgB, hgc, hgz, hcell⟩ := (HBB.out.keep HB7.out).at_ HLT2.out
                have hcr := HBB.out.rest j (Nat.le_refl _) HLT2.out
                rw [hcr, HE2.out] at hcell
                have b0 : wi.cell? ⟨gB, j * 5, none⟩ = some (.slice ia ins.length ic) := hcell 0 (by omega)
                have b1 := hgz (j * 5)
                obtain ⟨csB, hcsB⟩ := hgc
                have HBC := Lib.hid (show Blk wi gB 58 csB from hcsB)
                have HSPZ := Lib.hid (Spare.set HBC.out (j := j * 5) (.slice A3 ins.length c3))
                have p1 : wi.cell? ⟨w.heap.size, 1, none⟩ = some (.slice (some ⟨gA, 0, none⟩) funs.length c1) := ((HSPB.out.blk HKP.out (by decide)).beneath HB7.out).cells 1
                have a1 : wi.cell? ⟨gA, k * 2 + 1, none⟩ = some (.slice (some ⟨gB, 0, none⟩) bls.length c2) := by
                  obtain ⟨g, hA, _, _, _, hc⟩ := (HFW.out.keep HB7.out).at_ HLT.out
                  injection hA with hA
                  injection hA with hA _ _
                  subst hA
                  have := hc 1 (by omega)
                  rw [set_getD_same (by rw [HF.out.len]; exact HLT.out)] at this
                  exact this
                have hlI := HI.out.len
                have HBZ := Lib.hid ((HBB.out.keep HB7.out).stored (r' := ⟨A3, c3, curI, kd, ea, et, el⟩) (j := 0) (u := .slice A3 ins.length c3) HLT2.out (by omega) (by omega) ⟨csB, hcsB⟩ (by rw [hcr, HE2.out]; show [Value.slice A3 curI.length c3, _, _, _, _] = _; rw [hlI]; rfl))
                have HBZ2 : Hid (HalfB (wi.setCell ⟨gB, j * 5, none⟩ (.slice A3 ins.length c3)) wa.heap.size (some ⟨gB, 0, none⟩) c2 bls (curB.set j ⟨A3, c3, curI, kd, ea, et, el⟩) (j + 1) (j + 1)) := Lib.hid (HBZ.out.bump (by
                    rw [set_getD_same (by rw [HBB.out.len]; exact HLT2.out)]
                    have hkd : kd ≤ 255 := HR2.out.kind
                    exact ⟨hkd, (HOI.out.more HWS.out).spare HSPZ.out (by decide) (by decide)⟩) (by
                    rw [set_getD_same (by rw [HBB.out.len]; exact HLT2.out), HE2.out]
                    show (⟨insD curI, ⟨kd, ea, et, el⟩⟩ : PBlk) = ⟨insD ins, ⟨kd, ea, et, el⟩⟩
                    rw [HDI.out]))
                have HFZ := Lib.hid (ownsRow_spare (HFW.out.keep HB7.out).row HSPZ.out (by decide))
                have HOZ := Lib.hid ((HON.out.below HB7.out HWS.out).far hgB (j * 5) (.slice A3 ins.length c3))
                have HBelZ : Hid (Below w.heap.size w (wi.setCell ⟨gB, j * 5, none⟩ (.slice A3 ins.length c3))) := Lib.hid ((HB5.out.trans (HB7.out.mono HB5.out.size)).setCell (Nat.le_trans HB.out.size hgB) _)
                clear hcell hgz hcsB hcr hlI HBZ
                go_wp2_with fail
                go_roundw
                case rel => exact ⟨j + 1, _, by have := HLT2.out; omega, by go_num, HBZ2, HFZ, HOZ, HBelZ⟩
                case measure => simp [intOf]; have := HLT2.out; omega
          · obtain rfl : j = bls.length := by omega
            obtain ⟨hOB, hDB⟩ := HBB.out.all (Nat.le_refl _)
            have hlB := HBB.out.len
            have HFN : Hid (HalfF wb w.heap.size (some ⟨gA, 0, none⟩) c1 funs (cur.set k ⟨sig, A2, c2, curB⟩) (k + 1) (k + 1)) := Lib.hid ((HF.out.move (k := k) (Nat.le_refl _) (by omega) HSPB.out (by
                rw [← flat_same FuR.cells2 cur k ⟨sig, A2, c2, bls⟩ ⟨sig, A2, c2, curB⟩ (by show [_, Value.slice A2 bls.length c2] = [_, Value.slice A2 curB.length c2]; rw [hlB])]
                exact HFR.out)).bump (by
                rw [set_getD_same (by rw [HF.out.len]; exact HLT.out)]
                exact OwnBls.more hOB HB.out.size) (by
                rw [set_getD_same (by rw [HF.out.len]; exact HLT.out), HRR.out]
                show (⟨sig, blkD curB⟩ : PFun) = ⟨sig, blkD bls⟩
                rw [hDB]))
            have HOTN := Lib.hid (HOT.out.spare HSPB.out (by decide) (by decide))
            have HKPN := Lib.hid (HSPB.out.blk HKP.out (by decide))
            have HRPN := Lib.hid (HSPB.out.blk HRP.out (by decide))
            clear hOB hDB hlB
            go_wp2_with fail
            go_roundw
            case rel => exact ⟨k + 1, _, by have := HLT.out; omega, by go_num, HFN, HOTN, HKPN, HRPN, HB5⟩
            case measure => simp [intOf]; have := HLT.out; omega
      · obtain rfl : k = funs.length := by omega
        obtain ⟨hOF, hDF⟩ := HF.out.all (Nat.le_refl _)
        have hlF := HF.out.len
        have r0 := HRP.out.cells 0
        have r1 := HRP.out.cells 1
        have r2 := HRP.out.free 0
        have r3 := HRP.out.free 1
        have p0 := HKP.out.cells 0
        have p1 := HKP.out.cells 1
        have HOFF := Lib.hid hOF
        have HDFF := Lib.hid hDF
        have HLF := Lib.hid hlF
        clear hOF hDF hlF
        go_wp2_with fail
        have hk8 := (HRP.out.put 0 (.slice At nt.length ct)).put 1 (.slice A1 funs.length c1)
        have q0 := hk8.cells 0
        have q1 := hk8.cells 1
        have hs1 : Spare 35 wa ((wa.setCell ⟨w.heap.size + 1, 0, none⟩ (.slice At nt.length ct)).setCell ⟨w.heap.size + 1, 1, none⟩ (.slice A1 funs.length c1)) := (Spare.set HRP.out _).trans (Spare.set (HRP.out.put 0 _) _)
        have hbe : Below w.heap.size w ((wa.setCell ⟨w.heap.size + 1, 0, none⟩ (.slice At nt.length ct)).setCell ⟨w.heap.size + 1, 1, none⟩ (.slice A1 funs.length c1)) := (HB.out.setCell (by show w.heap.size ≤ w.heap.size + 1; omega) _).setCell (by show w.heap.size ≤ w.heap.size + 1; omega) _
        refine bodyPost_ret (v := .agg #[.slice At nt.length ct, .slice A1 funs.length c1]) (by simp [results, Tryd.results28, go_sem, q0, q1]) rfl ?_
        refine ⟨⟨At, ct, nt, A1, c1, cur⟩, by rw [← HLF.out], ⟨HOT.out.spare hs1 (by decide) (by decide), HOFF.out.spare hs1 (by decide) (by decide) (by decide) (by decide)⟩, ?_, hbe⟩
        show (⟨tbl nt, funD cur⟩ : PProg) = ⟨tbl types, funD funs⟩
        rw [HDFF.out, HTD.out]
end Go.Proofs.YtcbhmpkginebaaaDoor
