/-
  The program's word for shapes: may a function be. The program's word for shapes: may a function be. The program's words for shapes: Check, asked. The program's words for shapes: Regs, Place, Reg. The reference's Great: a program that is no more than the statements go through keeps the limits. The chapter's program, and what it may be turned to. The chapter's example lives.
-/
import Derived.Test.YtcbhmpkginebaaaDoorMg10
import Derived.Deep.RegionHeld3
import Derived.Laws.EntriesVeiled
namespace Go.Proofs.YtcbhmpkginebaaaDoor
set_option linter.unusedVariables false
set_option linter.unusedSimpArgs false
open Go.ChangeShapes Go.WideShapes Go.ChangeAt Go.RowKit

theorem pins_any {w : World} (x : InR) (hx : x.Ok w) (hal : x.args.length ≤ 1000) (hfl : x.from_.length ≤ 1000) (t f r b : Int) (ht : TabW w) {z : Bool} (hz : insB x.data t f r b = z) :
    Calls Tryd.prog 73 #[x.val, szV t f r b] w fun e w' => e = .returned (.bool z) ∧ Below w.heap.size w w' := by
  have hk := (has_facts x.op).1
  cases h0 : hasT x.op 0 with
  | true =>
    cases h1 : hasT x.op 1 with
    | true => exact pins_g1 x h0 h1 hx hal hfl t f r b ht hz
    | false =>
      cases h2 : hasT x.op 2 with
      | true => exact pins_g2 x h0 h1 h2 hx hal hfl t f r b ht hz
      | false => exact pins_g3 x h0 h1 h2 hx hal hfl t f r b ht hz
  | false =>
    have h1 : hasT x.op 1 = false := by
      cases h1 : hasT x.op 1 with
      | false => rfl
      | true =>
        rw [h0, h1] at hk
        simp [okHas] at hk
    cases h2 : hasT x.op 2 with
    | true => exact pins_g4 x h0 h1 h2 hx hal hfl t f r b ht hz
    | false => exact pins_g5 x h0 h1 h2 hx hal hfl t f r b ht hz
theorem enters_fun1 : Enters 72 := fun _ _ => by kernel_rfl
theorem enters_fun2 : Enters 75 := fun _ _ => by kernel_rfl
theorem enters_chk1 : Enters 50 := fun _ _ => by kernel_rfl
def szA (t f r b : Int) : Array Value := #[.int .i64 t, .int .i64 f, .int .i64 r, .int .i64 b]
set_option maxRecDepth 100000 in
theorem fun1_any {w : World} {g : Nat} (x : InR) (hx : x.Ok w) (hal : x.args.length ≤ 1000) (hfl : x.from_.length ≤ 1000) (t f r b : Int) (ht : TabW w) (hs : Blk w g 101 (szA t f r b)) {z : Bool} (hz : insB x.data t f r b = z) :
    Calls Tryd.prog 72 #[x.val, .pointer (some ⟨g, 0, none⟩)] w fun e w' => e = .returned (.bool (!z)) ∧ Below w.heap.size w w' := by
  have HC := Lib.hid (fun W (hb : Below w.heap.size w W) => pins_any x (hx.on hb) hal hfl t f r b (ht.on hb) hz)
  unfold InR.val szV at *
  unfold szA at hs
  obtain ⟨op, ty, a, bb, n, aa, ac, args, xa, xc, from_⟩ := x
  dsimp only at *
  have HB := Lib.hid ((Below.refl w.heap.size w).alloc (Nat.le_refl _) (.cells #[.int .u8 op, .int .i64 ty, .int .i64 a, .int .i64 bb, .int .i64 n, .slice aa args.length ac, .slice xa from_.length xc] 24))
  have s0 := hs.cells 0
  have s1 := hs.cells 1
  have s2 := hs.cells 2
  have s3 := hs.cells 3
  have hg := hs.lt
  clear hx ht hs hz hal hfl
  have q0 := (HB.out.cell (p := ⟨g, 0, none⟩) hg).trans s0
  have q1 := (HB.out.cell (p := ⟨g, 1, none⟩) hg).trans s1
  have q2 := (HB.out.cell (p := ⟨g, 2, none⟩) hg).trans s2
  have q3 := (HB.out.cell (p := ⟨g, 3, none⟩) hg).trans s3
  clear s0 s1 s2 s3
  go_enter Tryd.func72, Tryd.ntmps72
  go_wp2_with fail
  refine (HC.out _ HB.out).mono ?_
  rintro e w1 ⟨rfl, hb1⟩
  have HB1 := Lib.hid (HB.out.trans (hb1.mono HB.out.size))
  clear hb1
  go_wp2_with fail
  go_ret
  exact ⟨rfl, HB1.out⟩
set_option maxRecDepth 100000 in
theorem fun2_any {w : World} {go gs : Nat} (v : BlR) (hv : v.Ok w) (hal : ∀ x ∈ v.ins, x.args.length ≤ 1000) (hfl : ∀ x ∈ v.ins, x.from_.length ≤ 1000) (t f : Nat) (r : Int) (b : Nat) (ht : TabW w) (hs : Blk w gs 101 (szA t f r b))
    (ho : w.cell? ⟨go, 0, none⟩ = some (.func (.func 72) #[] #[.pointer (some ⟨gs, 0, none⟩)])) :
    Calls Tryd.prog 75 #[v.val, .pointer (some ⟨go, 0, none⟩), .pointer (some ⟨gs, 0, none⟩)] w fun e w' => e = .returned (.bool (!blkOk t f r b v)) ∧ Below w.heap.size w w' := by
  obtain ⟨z, hz⟩ : ∃ z, v.ins.all (insOk t f r b) = z := ⟨_, rfl⟩
  obtain ⟨y, hy⟩ : ∃ y, endB ⟨v.kind, v.a, v.to, v.els⟩ r b = y := ⟨_, rfl⟩
  have hbk : blkOk t f r b v = (z && y) := by unfold blkOk; rw [hz, hy]
  rw [hbk]
  have hany : v.ins.any (fun x => !insOk t f r b x) = !z := by rw [← hz, List.all_eq_not_any_not, Bool.not_not]
  have HC := Lib.hid (fun W (hb : Below w.heap.size w W) => containsI_any (hv.ins.on hb) 72 #[.pointer (some ⟨gs, 0, none⟩)] (fun x => !insOk t f r b x) ⟨enters_fun1, fun W' x hb' hx => fun1_any x (((hv.ins.on hb).ok x hx).on hb') (hal x hx) (hfl x hx) t f r b (ht.on (hb.trans (hb'.mono hb.size))) (hs.beneath (hb.trans (hb'.mono hb.size))) rfl⟩ hany)
  have HE := Lib.hid (fun W => pend_any ⟨v.kind, v.a, v.to, v.els⟩ t f r b W hy)
  have HS := Lib.hid hs
  have hgo : go < w.heap.size := World.block_lt_of_cell? w _ ho
  unfold BlR.val
  unfold endVal szV at HE
  obtain ⟨ia, ic, ins, kind, ea, et, el⟩ := v
  dsimp only at *
  have HN := Lib.hid (Blk.new w 58 #[.slice ia ins.length ic, .int .u8 kind, .int .i64 ea, .int .i64 et, .int .i64 el])
  have HB := Lib.hid ((Below.refl w.heap.size w).alloc (Nat.le_refl _) (.cells #[.slice ia ins.length ic, .int .u8 kind, .int .i64 ea, .int .i64 et, .int .i64 el] 58))
  have o0 := (HB.out.cell (p := ⟨go, 0, none⟩) hgo).trans ho
  clear hv ht hs hz hy hal hfl hany hbk ho hgo
  cases z with
  | false =>
    go_enter Tryd.func75, Tryd.ntmps75
    go_wp2_with fail
    refine (HC.out _ HB.out).mono ?_
    rintro e w1 ⟨rfl, hb1⟩
    have HB1 := Lib.hid (HB.out.trans (hb1.mono HB.out.size))
    clear hb1
    go_wp2_with fail
    go_ret
    exact ⟨rfl, HB1.out⟩
  | true =>
    go_enter Tryd.func75, Tryd.ntmps75
    go_wp2_with fail
    refine (HC.out _ HB.out).mono ?_
    rintro e w1 ⟨rfl, hb1⟩
    have HB1 := Lib.hid (HB.out.trans (hb1.mono HB.out.size))
    have n0 := (HN.out.beneath hb1).cells 0
    have n1 := (HN.out.beneath hb1).cells 1
    have n2 := (HN.out.beneath hb1).cells 2
    have n3 := (HN.out.beneath hb1).cells 3
    have n4 := (HN.out.beneath hb1).cells 4
    have s0 := (HS.out.beneath HB1.out).cells 0
    have s1 := (HS.out.beneath HB1.out).cells 1
    have s2 := (HS.out.beneath HB1.out).cells 2
    have s3 := (HS.out.beneath HB1.out).cells 3
    unfold szA at s0 s1 s2 s3
    clear hb1 o0
    go_wp2_with fail
    refine (HE.out _).mono ?_
    rintro e w2 ⟨rfl, hb2⟩
    have HB2 := Lib.hid (HB1.out.trans (hb2.mono HB1.out.size))
    clear hb2
    go_wp2_with fail
    go_ret
    exact ⟨rfl, HB2.out⟩
end Go.Proofs.YtcbhmpkginebaaaDoor
namespace Go.Proofs.YtcbhmpkginebaaaDoor
set_option linter.unusedVariables false
set_option linter.unusedSimpArgs false
open Go.ChangeShapes Go.WideShapes Go.ChangeAt Go.RowKit

theorem BoxF.put {w0 w : World} {g1 g2 g i : Nat} {p x : Array Value} {u : Value} (h : BoxF w0 w g1 g2 p x) (h1 : g ≠ g1) (h2 : g ≠ g2) (h0 : w0.heap.size ≤ g) : BoxF w0 (w.setCell ⟨g, i, none⟩ u) g1 g2 p x :=
  ⟨h.p.far (fun e => h1 e.symm) u, h.x.far (fun e => h2 e.symm) u, h.below.setCell h0 u⟩
set_option maxRecDepth 100000 in
set_option maxHeartbeats 1600000 in
theorem pfunction_any {w : World} {p : PrR} (h : ProgIn w p) (hpp : ∀ t ∈ p.types, t.parts.length ≤ 1000000) (ht : TabW w) (f : FuR) (hf : f.Ok w) (hfl : FuLim f) {z : Bool} (hz : funB p.data f.data = z) :
    Calls Tryd.prog 51 #[p.val, f.val] w fun e w' => e = .returned (.bool z) ∧ Below w.heap.size w w' := by
  have hpl := h.types.len
  have hbl := hfl.blocks
  have hfc := h.funs.hdr.cle
  have HPP := Lib.hid hpp
  clear hpp
  have HP := Lib.hid h
  have HMY := Lib.hid (fun W (hb : Below w.heap.size w W) => pmany_any f (hf.blocks.on hb) hfl.blocks hfl.ins)
  obtain ⟨q, hq⟩ : ∃ b, headB p.data f.data = b := ⟨_, rfl⟩
  obtain ⟨rg, hrg⟩ : ∃ b : Nat, regsP p.data f.data = b := ⟨_, rfl⟩
  obtain ⟨mn, hmn⟩ : ∃ b : Nat, manyB (f.blocks.map BlR.data) = b := ⟨_, rfl⟩
  have hsp := fun_split p f
  rw [hq, hrg, hz] at hsp
  rw [hmn] at HMY
  have hrg2 : f.sig < p.types.length → 0 ≤ f.sig → (p.types.getD f.sig.toNat default).parts.length + mn = rg := fun a b => by
    rw [← hrg, ← hmn]
    unfold regsP parsP
    have : p.data.types.getD f.data.sig.toNat default = (p.types.getD f.sig.toNat default).data := tbl_at (show f.sig.toNat < _ by omega)
    rw [this]
    rfl
  have hq2 : q = (inB f.sig p.types.length && (decide ((p.data.types.getD f.sig.toNat default).kind = 3) && (decide (1 ≤ f.blocks.length ∧ f.blocks.length ≤ 16) && decide (mn ≤ 128)))) := by
    rw [← hq, ← hmn]
    unfold headB
    rw [show p.data.types.length = p.types.length from tbl_len _, show f.data.blocks.length = f.blocks.length from List.length_map ..]
    rfl
  have hkd : f.sig < p.types.length → 0 ≤ f.sig → p.data.types.getD f.sig.toNat default = (p.types.getD f.sig.toNat default).data := fun a b => tbl_at (by omega)
  have hall : f.blocks.any (fun b => !blkOk p.types.length p.funs.length (rg : Nat) f.blocks.length b) = !(f.blocks.all (blkOk p.types.length p.funs.length (rg : Nat) f.blocks.length)) := by
    rw [List.all_eq_not_any_not, Bool.not_not]
  obtain ⟨ab, hab⟩ : ∃ b, f.blocks.all (blkOk p.types.length p.funs.length (rg : Nat) f.blocks.length) = b := ⟨_, rfl⟩
  rw [hab] at hall hsp
  have HCB := Lib.hid (fun W (hb : Below w.heap.size w W) (go gs : Nat) (hs : Blk W gs 101 (szA p.types.length p.funs.length rg f.blocks.length)) (ho : W.cell? ⟨go, 0, none⟩ = some (.func (.func 72) #[] #[.pointer (some ⟨gs, 0, none⟩)])) =>
    containsB_any (hf.blocks.on hb) 75 #[.pointer (some ⟨go, 0, none⟩), .pointer (some ⟨gs, 0, none⟩)] (fun b => !blkOk p.types.length p.funs.length (rg : Nat) f.blocks.length b)
      ⟨enters_fun2, fun W' v hb' hv => fun2_any v (((hf.blocks.on hb).ok v hv).on hb') (hfl.args v hv) (hfl.froms v hv) p.types.length p.funs.length rg f.blocks.length (ht.on (hb.trans (hb'.mono hb.size))) (hs.beneath hb') ((hb'.cell (p := ⟨go, 0, none⟩) (World.block_lt_of_cell? W _ ho)).trans ho)⟩ hall)
  have HRG := Lib.hid hrg2
  have HQ := Lib.hid hq2
  have HKD := Lib.hid hkd
  have HR := Lib.hid hsp
  unfold PrR.val FuR.val at *
  clear hsp hrg hq hmn hrg2 hq2 hkd hf h hfl hab hall hz ht
  obtain ⟨ta, tc, types, fa, fc, funs⟩ := p
  obtain ⟨sig, ba, bc, blocks⟩ := f
  dsimp only at *
  have HW1 := Lib.hid (show BoxF w ((w.alloc (.cells #[.slice ta types.length tc, .slice fa funs.length fc] 35)).alloc (.cells #[.int .i64 sig, .slice ba blocks.length bc] 55)) w.heap.size (w.heap.size + 1) #[.slice ta types.length tc, .slice fa funs.length fc] #[.int .i64 sig, .slice ba blocks.length bc] from
    ⟨(Blk.new w _ _).beneath ((Below.refl _ _).alloc (Nat.le_refl _) _), heap_at _ _ _ (World.size_alloc _ _), ((Below.refl _ _).alloc (Nat.le_refl _) _).alloc (by rw [World.size_alloc]; omega) _⟩)
  have HTR := Lib.hid (fun (k : Nat) (hk : k < types.length) => HP.out.types.rows.elem hk)
  go_enter Tryd.func51, Tryd.ntmps51
  go_upto_region 1 with fail
  go_cut [36] (fun c wx => c = .bool (!q) ∧ Hid (BoxF w wx w.heap.size (w.heap.size + 1) #[.slice ta types.length tc, .slice fa funs.length fc] #[.int .i64 sig, .slice ba blocks.length bc]))
  case first =>
    have x0 := HW1.out.x.cells 0; have x1 := HW1.out.x.cells 1; have p0 := HW1.out.p.cells 0; have p1 := HW1.out.p.cells 1
    by_cases s01 : 0 ≤ sig ∧ sig < types.length
    · obtain ⟨s0, s1⟩ := s01
      have HI : Hid (inB sig types.length = true) := Lib.hid (inB_iff.2 ⟨s0, s1⟩)
      obtain ⟨k, rfl⟩ : ∃ k : Nat, sig = k := ⟨sig.toNat, by omega⟩
      have hk : k < types.length := by omega
      obtain ⟨b, off, rfl, hb, d0, _, _, _⟩ := (HTR.out k hk).at_
      have e0 := (HW1.out.below.cell (p := ⟨b, off + k * 4, none⟩) hb).trans d0
      clear d0
      have HKK : Hid (q = (decide ((types.getD k default).kind = 3) && (decide (1 ≤ blocks.length ∧ blocks.length ≤ 16) && decide (mn ≤ 128)))) := Lib.hid (by
        rw [HQ.out, inB_iff.2 ⟨s0, s1⟩, HKD.out s1 s0]
        rfl)
      obtain ⟨kd, hkd⟩ : ∃ kd, (types.getD k default).kind = kd := ⟨_, rfl⟩
      rw [hkd] at e0 HKK
      clear hkd HKD HTR
      by_cases k3 : kd = 3
      · subst k3
        obtain ⟨bz, hbz⟩ : ∃ v, inB ((blocks.length : Int) - 1) 16 = v := ⟨_, rfl⟩
        have hbz2 : decide (1 ≤ blocks.length ∧ blocks.length ≤ 16) = bz := by
          rw [← hbz, Bool.eq_iff_iff, inB_iff, decide_eq_true_iff]
          omega
        have HBZ := Lib.hid hbz
        have hblz : (blocks.length : Int) ≤ 1000 := by omega
        rw [hbz2] at HKK
        clear hbz hbz2
        go_wp2_with fail
        refine (pbelow_is HI.out _).mono ?_
        rintro e w9 ⟨rfl, rfl⟩
        go_wp2_with fail
        refine (pbelow_is HBZ.out _).mono ?_
        rintro e w9 ⟨rfl, rfl⟩
        cases bz with
        | false =>
          have HZ : Hid (q = false) := Lib.hid (by rw [HKK.out]; simp)
          go_wp2_with fail
          go_meet
          exact ⟨by rw [HZ.out]; rfl, HW1⟩
        | true =>
          have HK2 : Hid (q = decide (mn ≤ 128)) := Lib.hid (by rw [HKK.out]; simp)
          go_wp2_with fail
          refine (HMY.out _ HW1.out.below).mono ?_
          rintro e w2 ⟨rfl, hb2⟩
          have HW2 := Lib.hid (HW1.out.on hb2)
          clear hb2 x0 x1 p0 p1 e0
          by_cases m0 : mn ≤ 128
          · have m0z : ¬ (128 : Int) < mn := by omega
            have HZ : Hid (q = true) := Lib.hid (by rw [HK2.out]; exact decide_eq_true m0)
            clear m0
            go_wp2_with fail
            go_meet
            exact ⟨by rw [HZ.out]; first | rfl | (congr 1; simp; omega), HW2⟩
          · have m0z : (128 : Int) < mn := by omega
            have HZ : Hid (q = false) := Lib.hid (by rw [HK2.out]; exact decide_eq_false m0)
            clear m0
            go_wp2_with fail
            go_meet
            exact ⟨by rw [HZ.out]; first | rfl | (congr 1; simp; omega), HW2⟩
      · have k3z : ((kd : Int) != 3) = true := bne_iff_ne.2 (by omega)
        have HZ : Hid (q = false) := Lib.hid (by rw [HKK.out, decide_eq_false k3]; rfl)
        clear k3
        go_wp2_with fail
        refine (pbelow_is HI.out _).mono ?_
        rintro e w9 ⟨rfl, rfl⟩
        go_wp2_with fail
        go_meet
        exact ⟨by rw [HZ.out]; rfl, HW1⟩
    · have HI : Hid (inB sig types.length = false) := Lib.hid (inB_not.2 (by omega))
      have HZ : Hid (q = false) := Lib.hid (by rw [HQ.out, HI.out]; rfl)
      clear s01
      go_wp2_with fail
      refine (pbelow_is HI.out _).mono ?_
      rintro e w9 ⟨rfl, rfl⟩
      go_wp2_with fail
      go_meet
      exact ⟨by rw [HZ.out]; rfl, HW1⟩
  case rest =>
    clear HW1
    obtain ⟨rfl, HW1⟩ := hcut
    cases q with
    | false =>
      have HZ : Hid (z = false) := Lib.hid (by rw [HR.out]; rfl)
      go_wp2_with fail
      go_ret
      exact ⟨ret_bool HZ.out.symm, HW1.out.below⟩
    | true =>
      have HZ : Hid (z = ab) := Lib.hid (by rw [HR.out]; rfl)
      rw [Bool.not_true]
      have hq3 := HQ.out.symm
      rw [Bool.and_eq_true, inB_iff, Bool.and_eq_true, Bool.and_eq_true, decide_eq_true_eq, decide_eq_true_eq, decide_eq_true_eq] at hq3
      obtain ⟨⟨s0, s1⟩, k3, ⟨b0, b1⟩, m0⟩ := hq3
      have hrp := HRG.out s1 s0
      obtain ⟨k, rfl⟩ : ∃ k : Nat, sig = k := ⟨sig.toNat, by omega⟩
      have hk : k < types.length := by omega
      obtain ⟨b, off, rfl, hb, _, _, _, d3⟩ := (HTR.out k hk).at_
      rw [Int.toNat_natCast] at hrp
      obtain ⟨r, hr⟩ : ∃ r, types.getD k default = r := ⟨_, rfl⟩
      rw [hr] at d3 hrp
      have hprl : r.parts.length ≤ 1000000 := by rw [← hr]; exact HPP.out _ (mem_getD (d := default) hk)
      obtain ⟨pr, hpr⟩ : ∃ n, r.parts.length = n := ⟨_, rfl⟩
      rw [hpr] at d3 hrp hprl
      have e3 := (HW1.out.below.cell (p := ⟨b, off + k * 4 + 3, none⟩) hb).trans d3
      have HE3 := Lib.hid (And.intro hb d3)
      clear hr hpr k3 HKD HTR HRG HQ d3 HPP
      have b1z : (blocks.length : Int) ≤ 16 := by omega
      have prz : (pr : Int) ≤ 1000000 := by omega
      have mnz : (mn : Int) ≤ 128 := by omega
      have rgw : IntKind.i64.wrap (rg : Int) = rg := IntWalk.i64_in _ (by omega)
      have rgz : (pr : Int) + (mn : Int) = (rg : Int) := by omega
      clear hrp m0 hprl b0 b1
      have x0 := HW1.out.x.cells 0; have x1 := HW1.out.x.cells 1; have p0 := HW1.out.p.cells 0; have p1 := HW1.out.p.cells 1
      go_upto_region 3 with fail
      go_cut [5] (fun v wx => ∃ gs : Nat, v = .pointer (some ⟨gs, 0, none⟩) ∧ Hid (Blk wx gs 101 (szA types.length funs.length rg blocks.length) ∧ BoxF w wx w.heap.size (w.heap.size + 1) #[.slice (some ⟨b, off, none⟩) types.length tc, .slice fa funs.length fc] #[.int .i64 k, .slice ba blocks.length bc]))
      case first =>
        have n0' := World.new_ne _ _ p0
        have n2' := World.new_ne _ _ x0
        have n4' := World.new_ne _ _ e3
        go_region_held3 (fun w' => w'.cell? ⟨w.heap.size, 0, none⟩ = some (.slice (some ⟨b, off, none⟩) types.length tc) ∧ w'.cell? ⟨w.heap.size, 1, none⟩ = some (.slice fa funs.length fc) ∧ w'.cell? ⟨w.heap.size + 1, 0, none⟩ = some (.int .i64 k) ∧ w'.cell? ⟨w.heap.size + 1, 1, none⟩ = some (.slice ba blocks.length bc) ∧ w'.cell? ⟨b, off + k * 4 + 3, none⟩ = some (.slice r.pa pr r.pc)) (go_keep)
          (first
            | (go_at_call 40
               refine (HMY.out _ HW1.out.below.drew).mono ?_
               rintro e w2 ⟨rfl, hb2⟩
               have HW2 := Lib.hid (HW1.out.on ((Below.refl _ _).drew.trans hb2))
               have m0 := HW2.out.p.cells 0
               have m1 := HW2.out.p.cells 1
               have m2 := HW2.out.x.cells 0
               have m3 := HW2.out.x.cells 1
               have m4 := (HW2.out.below.cell (p := ⟨b, off + k * 4 + 3, none⟩) HE3.out.1).trans HE3.out.2
               have n0 := World.new_ne _ _ m0
               have n2 := World.new_ne _ _ m2
               have n4 := World.new_ne _ _ m4
               clear hb2)
            | (go_at_call 40
               refine (HMY.out _ (HW1.out.below.drew.alloc HW1.out.below.size (.cells #[.int .i64 0, .int .i64 0, .int .i64 0, .int .i64 0] 101))).mono ?_
               rintro e w2 ⟨rfl, hb2⟩
               have HW2 := Lib.hid (HW1.out.on (((Below.refl _ _).drew.alloc (Nat.le_refl _) _).trans (hb2.mono (by simp))))
               have hnb := (Blk.new wc.drew 101 #[.int .i64 0, .int .i64 0, .int .i64 0, .int .i64 0]).beneath hb2
               have HNB := Lib.hid hnb
               have z0 : w2.cell? ⟨wc.heap.size, 0, none⟩ = _ := hnb.cells 0
               have z1 : w2.cell? ⟨wc.heap.size, 1, none⟩ = _ := hnb.cells 1
               have z2 : w2.cell? ⟨wc.heap.size, 2, none⟩ = _ := hnb.cells 2
               have z3 : w2.cell? ⟨wc.heap.size, 3, none⟩ = _ := hnb.cells 3
               have y0 : w2.frozen? ⟨wc.heap.size, 0, none⟩ = false := hnb.free 0
               have y1 : w2.frozen? ⟨wc.heap.size, 1, none⟩ = false := hnb.free 1
               have y2 : w2.frozen? ⟨wc.heap.size, 2, none⟩ = false := hnb.free 2
               have y3 : w2.frozen? ⟨wc.heap.size, 3, none⟩ = false := hnb.free 3
               have m0 := HW2.out.p.cells 0
               have m1 := HW2.out.p.cells 1
               have m2 := HW2.out.x.cells 0
               have m3 := HW2.out.x.cells 1
               have m4 := (HW2.out.below.cell (p := ⟨b, off + k * 4 + 3, none⟩) HE3.out.1).trans HE3.out.2
               have n0 := World.new_ne _ _ m0
               have n2 := World.new_ne _ _ m2
               have n4 := World.new_ne _ _ m4
               clear hb2 hnb))
        · go_wp2_with fail
          go_meet
          exact ⟨_, rfl, Lib.hid ⟨Blk.new _ _ _, HW2.out.on ((Below.refl _ _).alloc (Nat.le_refl _) _)⟩⟩
        · have hA : Blk ((((w2.setCell ⟨wc.heap.size, 0, none⟩ (.int .i64 types.length)).setCell ⟨wc.heap.size, 1, none⟩ (.int .i64 funs.length)).setCell ⟨wc.heap.size, 2, none⟩ (.int .i64 rg)).setCell ⟨wc.heap.size, 3, none⟩ (.int .i64 blocks.length)) wc.heap.size 101 (szA types.length funs.length rg blocks.length) :=
            (((HNB.out.put 0 _).put 1 _).put 2 _).put 3 _
          have hle := HW1.out.below.size
          have HH := Lib.hid (And.intro hA ((((HW2.out.put (i := 0) (u := .int .i64 types.length) n0' n2' hle).put (i := 1) (u := .int .i64 funs.length) n0' n2' hle).put (i := 2) (u := .int .i64 rg) n0' n2' hle).put (i := 3) (u := .int .i64 blocks.length) n0' n2' hle))
          clear hA hle
          go_wp2_with fail
          go_meet
          exact ⟨_, rfl, HH⟩
      case rest =>
        clear HW1
        obtain ⟨gs, rfl, HHS⟩ := hcut
        have HS := Lib.hid HHS.out.1
        have HW1 := Lib.hid HHS.out.2
        clear HHS x0 x1 p0 p1 e3
        have HB2 := Lib.hid ((Below.refl wc.heap.size wc).alloc (Nat.le_refl _) (.cells #[.func (.func 72) #[] #[.pointer (some ⟨gs, 0, none⟩)]] 51))
        have HW2 := Lib.hid (HW1.out.on HB2.out)
        have HO := Lib.hid ((Blk.new wc 51 #[.func (.func 72) #[] #[.pointer (some ⟨gs, 0, none⟩)]]).cells 0)
        have x0 := HW2.out.x.cells 0; have x1 := HW2.out.x.cells 1; have p0 := HW2.out.p.cells 0; have p1 := HW2.out.p.cells 1
        go_wp2_with fail
        refine (HCB.out _ HW2.out.below wc.heap.size gs (HS.out.beneath HB2.out) HO.out).mono ?_
        rintro e w2 ⟨rfl, hb2⟩
        have HW3 := Lib.hid (HW2.out.on hb2)
        clear hb2
        go_wp2_with fail
        go_ret
        exact ⟨ret_bool HZ.out.symm, HW3.out.below⟩
end Go.Proofs.YtcbhmpkginebaaaDoor
namespace Go.Proofs.YtcbhmpkginebaaaDoor
set_option linter.unusedVariables false
set_option linter.unusedSimpArgs false
open Go.ChangeShapes Go.WideShapes Go.ChangeAt Go.RowKit

theorem PrLim.parts6 {p : PrR} (h : PrLim p) : ∀ t ∈ p.types, t.parts.length ≤ 1000000 := fun t ht => Nat.le_trans (h.parts t ht) (by omega)
set_option maxRecDepth 100000 in
theorem chk1_any {w : World} {p : PrR} (h : ProgIn w p) (hl : PrLim p) (ht : TabW w) {g : Nat} (hg : Blk w g 35 #[.slice p.ta p.types.length p.tc, .slice p.fa p.funs.length p.fc]) (f : FuR) (hf : f.Ok w) (hfl : FuLim f) {z : Bool} (hz : funB p.data f.data = z) :
    Calls Tryd.prog 50 #[f.val, .pointer (some ⟨g, 0, none⟩)] w fun e w' => e = .returned (.bool (!z)) ∧ Below w.heap.size w w' := by
  have HC := Lib.hid (fun W (hb : Below w.heap.size w W) => pfunction_any (h.on hb) hl.parts6 (ht.on hb) f (hf.on hb) hfl hz)
  unfold PrR.val FuR.val at *
  obtain ⟨ta, tc, types, fa, fc, funs⟩ := p
  obtain ⟨sig, ba, bc, blocks⟩ := f
  dsimp only at *
  have HB := Lib.hid ((Below.refl w.heap.size w).alloc (Nat.le_refl _) (.cells #[.int .i64 sig, .slice ba blocks.length bc] 55))
  have p0 := (hg.beneath HB.out).cells 0
  have p1 := (hg.beneath HB.out).cells 1
  clear h hl ht hg hf hfl hz
  go_enter Tryd.func50, Tryd.ntmps50
  go_wp2_with fail
  refine (HC.out _ HB.out).mono ?_
  rintro e w1 ⟨rfl, hb1⟩
  have HB1 := Lib.hid (HB.out.trans (hb1.mono HB.out.size))
  clear hb1
  go_wp2_with fail
  go_ret
  exact ⟨rfl, HB1.out⟩
theorem tchk_is {w : World} {A : Option Addr} {c : Nat} {rows : List TyR} (h : TabFew w A c rows) {e0 : Int} (he : checkT (tbl rows) = e0) : Calls Tryd.prog 48 #[.slice A rows.length c] w fun e w' => e = .returned (.int .i64 e0) ∧ Below w.heap.size w w' := he ▸ pcheck_any h
set_option maxRecDepth 100000 in
set_option maxHeartbeats 1600000 in
theorem ppcheck_is {w : World} {p : PrR} (h : ProgIn w p) (hl : PrLim p) (ht : TabW w) {r : Int} (hr : checkP p.data = r) :
    Calls Tryd.prog 27 #[p.val] w fun e w' => e = .returned (.int .i64 r) ∧ Below w.heap.size w w' := by
  have hfl := hl.many
  obtain ⟨e0, he⟩ : ∃ e, checkT (tbl p.types) = e := ⟨_, rfl⟩
  obtain ⟨al, hal⟩ : ∃ e, p.funs.all (funOk p) = e := ⟨_, rfl⟩
  have hs := check_split p he
  rw [hal, hr] at hs
  have hany : p.funs.any (fun f => !funOk p f) = !al := by rw [← hal, List.all_eq_not_any_not, Bool.not_not]
  have HTC := Lib.hid (fun W (hb : Below w.heap.size w W) => tchk_is (TabFew.on ⟨h.types, hl.parts⟩ hb) he)
  have HCF := Lib.hid (fun W (hb : Below w.heap.size w W) (g : Nat) (hg : Blk W g 35 #[.slice p.ta p.types.length p.tc, .slice p.fa p.funs.length p.fc]) =>
    containsF_any (h.funs.on hb) 50 #[.pointer (some ⟨g, 0, none⟩)] (fun f => !funOk p f) ⟨enters_chk1, fun W' f hb' hf => chk1_any (h.on (hb.trans (hb'.mono hb.size))) hl (ht.on (hb.trans (hb'.mono hb.size))) (hg.beneath hb') f (((h.funs.on hb).ok f hf).on hb') (hl.funs f hf) rfl⟩ hany)
  have HR := Lib.hid hs
  unfold PrR.val at *
  clear h hl ht hr he hal hs hany
  obtain ⟨ta, tc, types, fa, fc, funs⟩ := p
  dsimp only at *
  have HW1 := Lib.hid (BoxP.new w #[.slice ta types.length tc, .slice fa funs.length fc])
  have x0 := HW1.out.p.cells 0
  have x1 := HW1.out.p.cells 1
  have hflz : (funs.length : Int) ≤ 1000 := by omega
  by_cases z0 : e0 = 0
  · subst z0
    have HR2 : Hid (r = if (1 ≤ funs.length ∧ funs.length ≤ 8) ∧ al = true then 0 else 60) := Lib.hid (by rw [HR.out]; exact if_neg (by decide))
    obtain ⟨bz, hbz⟩ : ∃ v, inB ((funs.length : Int) - 1) 8 = v := ⟨_, rfl⟩
    have hbz2 : bz = true ↔ 1 ≤ funs.length ∧ funs.length ≤ 8 := by
      rw [← hbz, inB_iff]
      omega
    have HBZ := Lib.hid hbz
    have HBI := Lib.hid hbz2
    clear HR hbz hbz2 hfl
    go_enter Tryd.func27, Tryd.ntmps27
    go_wp2_with fail
    refine (HTC.out _ HW1.out.below).mono ?_
    rintro e w2 ⟨rfl, hb2⟩
    have HW2 := Lib.hid (HW1.out.on hb2)
    clear hb2 x0 x1
    have x0 := HW2.out.p.cells 0
    have x1 := HW2.out.p.cells 1
    go_wp2_with fail
    refine (pbelow_is HBZ.out _).mono ?_
    rintro e w9 ⟨rfl, rfl⟩
    cases bz with
    | false =>
      have HZ : Hid (r = 60) := Lib.hid (by rw [HR2.out, if_neg]; rintro ⟨h1, _⟩; exact absurd (HBI.out.2 h1) (by decide))
      go_wp2_with fail
      go_ret
      exact ⟨ret_num HZ.out.symm, HW2.out.below⟩
    | true =>
      have HI2 := Lib.hid (HBI.out.1 rfl)
      cases al with
      | false =>
        have HZ : Hid (r = 60) := Lib.hid (by rw [HR2.out, if_neg]; rintro ⟨_, h2⟩; exact absurd h2 (by decide))
        go_wp2_with fail
        refine (HCF.out _ HW2.out.below w.heap.size HW2.out.p).mono ?_
        rintro e w3 ⟨rfl, hb3⟩
        have HW3 := Lib.hid (HW2.out.on hb3)
        clear hb3
        go_wp2_with fail
        go_ret
        exact ⟨ret_num HZ.out.symm, HW3.out.below⟩
      | true =>
        have HZ : Hid (r = 0) := Lib.hid (by rw [HR2.out, if_pos ⟨HI2.out, rfl⟩])
        go_wp2_with fail
        refine (HCF.out _ HW2.out.below w.heap.size HW2.out.p).mono ?_
        rintro e w3 ⟨rfl, hb3⟩
        have HW3 := Lib.hid (HW2.out.on hb3)
        clear hb3
        go_wp2_with fail
        go_ret
        exact ⟨ret_num HZ.out.symm, HW3.out.below⟩
  · have HZ : Hid (r = e0) := Lib.hid (by rw [HR.out, if_pos z0])
    have ez : (e0 != 0) = true := bne_iff_ne.2 z0
    clear z0 HR
    go_enter Tryd.func27, Tryd.ntmps27
    go_wp2_with fail
    refine (HTC.out _ HW1.out.below).mono ?_
    rintro e w2 ⟨rfl, hb2⟩
    have HW2 := Lib.hid (HW1.out.on hb2)
    clear hb2
    go_wp2_with fail
    go_ret
    exact ⟨ret_num HZ.out.symm, HW2.out.below⟩
/-- How many parameters a function has, if it may be asked. -/
def parsE (p : PProg) (f : Int) : Int × Int := if askedP p f ≠ 0 then (0, askedP p f) else (parsP p (funAt p f), 0)
set_option maxRecDepth 100000 in
set_option maxHeartbeats 1600000 in
theorem pasked_any {w : World} {p : PrR} (h : ProgIn w p) (hl : PrLim p) (ht : TabW w) (f : Int) :
    Calls Tryd.prog 39 #[p.val, .int .i64 f] w fun e w' => e = .returned (.tuple #[.int .i64 (parsE p.data f).1, .int .i64 (parsE p.data f).2]) ∧ Below w.heap.size w w' := by
  have hfl := hl.many
  obtain ⟨e0, he⟩ : ∃ e, checkP p.data = e := ⟨_, rfl⟩
  obtain ⟨r, hr⟩ : ∃ e, parsE p.data f = e := ⟨_, rfl⟩
  rw [hr]
  have HC := Lib.hid (fun W (hb : Below w.heap.size w W) => ppcheck_is (h.on hb) hl (ht.on hb) he)
  have HW1 := Lib.hid (BoxP.new w #[.slice p.ta p.types.length p.tc, .slice p.fa p.funs.length p.fc])
  have hlf : p.data.funs.length = p.funs.length := List.length_map ..
  by_cases z : e0 = 0
  · subst z
    have hask : askedP p.data f = if inB f p.funs.length then 0 else 2 := by unfold askedP; rw [he, hlf]; rfl
    by_cases hi : inB f p.funs.length = true
    · rw [if_pos hi] at hask
      obtain ⟨k, rfl, fr, hg⟩ := asked_ok hask
      have HZ : Hid (r = (((parsP p.data fr.data : Nat) : Int), 0)) := Lib.hid (by rw [← hr]; unfold parsE; rw [if_neg (by simpa using hask), fun_at hg])
      have HI := Lib.hid hi
      have hkf := hg.lt
      obtain ⟨b, off, f', ha, hb, ⟨c0, c1⟩, _, HEF⟩ := h.funs.elem hg.lt
      obtain rfl : f' = fr := HEF.out.symm.trans hg.get
      obtain ⟨s, hs⟩ : ∃ s : Nat, f'.sig = s := ⟨f'.sig.toNat, by have := hg.s0; omega⟩
      have hs1 : s < p.types.length := by have := hg.s1; omega
      have H : Elem w p.ta s (p.types.getD s default) := h.types.rows.elem hs1
      obtain ⟨tb, toff, hta, htb, _, _, _, d3⟩ := H.at_
      have hpp := pars_at hg
      rw [hs, Int.toNat_natCast] at hpp
      rw [hpp] at HZ
      obtain ⟨tr, htr⟩ : ∃ r, p.types.getD s default = r := ⟨_, rfl⟩
      rw [htr] at d3 HZ
      rw [hs] at c0
      have hprl : tr.parts.length ≤ 1000 := by rw [← htr]; exact hl.parts _ (mem_getD (d := default) hs1)
      unfold PrR.val at *
      clear h hl ht hr he hask hi hg HEF hs H hpp htr
      obtain ⟨ta, tc, types, fa, fc, funs⟩ := p
      dsimp only at *
      subst ha hta
      have hk0 : (0 : Int) ≤ (k : Int) := Int.natCast_nonneg _
      have hk1 : (k : Int) < (funs.length : Int) := by omega
      have hs0 : (0 : Int) ≤ (s : Int) := Int.natCast_nonneg _
      have hs2 : (s : Int) < (types.length : Int) := by omega
      have HC0 := Lib.hid (fun W (hB : Below w.heap.size w W) => (hB.cell (p := ⟨b, off + k * 2, none⟩) hb).trans c0)
      have HD3 := Lib.hid (fun W (hB : Below w.heap.size w W) => (hB.cell (p := ⟨tb, toff + s * 4 + 3, none⟩) htb).trans d3)
      clear c0 c1 d3
      go_enter Tryd.func39, Tryd.ntmps39
      go_wp2_with fail
      refine (HC.out _ HW1.out.below).mono ?_
      rintro e w2 ⟨rfl, hb2⟩
      have HW2 := Lib.hid (HW1.out.on hb2)
      clear hb2
      have x0 := HW2.out.p.cells 0
      have x1 := HW2.out.p.cells 1
      go_wp2_with fail
      refine (pbelow_is HI.out _).mono ?_
      rintro e w9 ⟨rfl, rfl⟩
      have c0 := HC0.out _ HW2.out.below
      have d3 := HD3.out _ HW2.out.below
      go_wp2_with fail
      refine wp_region_off (by kernel_rfl) (by kernel_rfl) ?_
      rintro W rfl
      have ox0 := fun m => Off.at x0 m
      have ox1 := fun m => Off.at x1 m
      have oc0 := fun m => Off.at c0 m
      have od3 := fun m => Off.at d3 m
      repeat (go_big_quiet_step (fail))
      refine wpQuiet_nil ?_
      intro w3 hw3
      obtain ⟨⟨w3, hb3⟩, rfl⟩ := hw3
      have HW3 := Lib.hid (HW2.out.on hb3)
      clear hb3
      go_wp2_with fail
      go_ret2
      exact ⟨by rw [HZ.out] <;> rfl, HW3.out.below⟩
    · rw [if_neg hi] at hask
      have HZ : Hid (r = (0, 2)) := Lib.hid (by rw [← hr]; unfold parsE; rw [if_pos (by rw [hask]; decide), hask])
      have HI : Hid (inB f p.funs.length = false) := Lib.hid (by simpa using hi)
      unfold PrR.val at *
      clear h hl ht hr he hask hi
      obtain ⟨ta, tc, types, fa, fc, funs⟩ := p
      dsimp only at *
      go_enter Tryd.func39, Tryd.ntmps39
      go_wp2_with fail
      refine (HC.out _ HW1.out.below).mono ?_
      rintro e w2 ⟨rfl, hb2⟩
      have HW2 := Lib.hid (HW1.out.on hb2)
      clear hb2
      have x0 := HW2.out.p.cells 0
      have x1 := HW2.out.p.cells 1
      go_wp2_with fail
      refine (pbelow_is HI.out _).mono ?_
      rintro e w9 ⟨rfl, rfl⟩
      go_wp2_with fail
      go_ret2
      exact ⟨by rw [HZ.out] <;> rfl, HW2.out.below⟩
  · have hask : askedP p.data f = e0 := by unfold askedP; rw [he]; exact if_pos z
    have HZ : Hid (r = (0, e0)) := Lib.hid (by rw [← hr]; unfold parsE; rw [if_pos (by rw [hask]; exact z), hask])
    have ez : (e0 != 0) = true := bne_iff_ne.2 z
    unfold PrR.val at *
    clear h hl ht hr he hask z
    obtain ⟨ta, tc, types, fa, fc, funs⟩ := p
    dsimp only at *
    go_enter Tryd.func39, Tryd.ntmps39
    go_wp2_with fail
    refine (HC.out _ HW1.out.below).mono ?_
    rintro e w2 ⟨rfl, hb2⟩
    have HW2 := Lib.hid (HW1.out.on hb2)
    clear hb2
    go_wp2_with fail
    go_ret2
    exact ⟨by rw [HZ.out] <;> rfl, HW2.out.below⟩
end Go.Proofs.YtcbhmpkginebaaaDoor
namespace Go.Proofs.YtcbhmpkginebaaaDoor
set_option linter.unusedVariables false
set_option linter.unusedSimpArgs false
open Go.ChangeShapes Go.WideShapes Go.ChangeAt Go.RowKit

theorem pasked_is {w : World} {p : PrR} (h : ProgIn w p) (hl : PrLim p) (ht : TabW w) {f a b : Int} (hr : parsE p.data f = (a, b)) :
    Calls Tryd.prog 39 #[p.val, .int .i64 f] w fun e w' => e = .returned (.tuple #[.int .i64 a, .int .i64 b]) ∧ Below w.heap.size w w' := by
  have := pasked_any h hl ht f
  rwa [hr] at this
theorem pars_bad {p : PProg} {f e0 : Int} (h : askedP p f = e0) (z : e0 ≠ 0) : parsE p f = (0, e0) := by unfold parsE; rw [h]; exact if_pos z
theorem pars_good {p : PrR} {k n : Nat} {f : FuR} (h : askedP p.data k = 0) (hg : FunGood p k f) (hn : parsP p.data f.data = n) : parsE p.data k = ((n : Int), 0) := by unfold parsE; rw [h, fun_at hg, hn]; rfl
/-- Where a function that may be lies. -/
theorem fun_spot {w : World} {p : PrR} (h : ProgIn w p) {k : Nat} {f : FuR} (hg : FunGood p k f) :
    ∃ b off, p.fa = some ⟨b, off, none⟩ ∧ b < w.heap.size ∧ w.cell? ⟨b, off + k * 2, none⟩ = some (.int .i64 f.sig) ∧ w.cell? ⟨b, off + k * 2 + 1, none⟩ = some (.slice f.ba f.blocks.length f.bc) ∧ f.Ok w ∧ f ∈ p.funs ∧ (0 : Int) ≤ (k : Int) ∧ (k : Int) < (p.funs.length : Int) := by
  obtain ⟨b, off, f', ha, hb, ⟨c0, c1⟩, hf, HEF⟩ := h.funs.elem hg.lt
  obtain rfl : f' = f := HEF.out.symm.trans hg.get
  have := hg.lt
  exact ⟨b, off, ha, hb, c0, c1, hf, by rw [← hg.get]; exact mem_getD hg.lt, by omega, by omega⟩
set_option maxRecDepth 100000 in
set_option maxHeartbeats 1600000 in
theorem pregs_any {w : World} {p : PrR} (h : ProgIn w p) (hl : PrLim p) (ht : TabW w) (f : Int) :
    Calls Tryd.prog 17 #[p.val, .int .i64 f] w fun e w' => e = .returned (.tuple #[.int .i64 (regsE p.data f).1, .int .i64 (regsE p.data f).2]) ∧ Below w.heap.size w w' := by
  have hfl := hl.many
  obtain ⟨e0, he⟩ : ∃ e, askedP p.data f = e := ⟨_, rfl⟩
  obtain ⟨r, hr⟩ : ∃ e, regsE p.data f = e := ⟨_, rfl⟩
  rw [hr]
  have HW1 := Lib.hid (BoxP.new w #[.slice p.ta p.types.length p.tc, .slice p.fa p.funs.length p.fc])
  by_cases z : e0 = 0
  · subst z
    obtain ⟨k, rfl, fr, hg⟩ := asked_ok he
    obtain ⟨n, hn⟩ : ∃ n, parsP p.data fr.data = n := ⟨_, rfl⟩
    obtain ⟨m, hm⟩ : ∃ n, manyB (fr.blocks.map BlR.data) = n := ⟨_, rfl⟩
    have HZ : Hid (r = (((n + m : Nat) : Int), 0)) := Lib.hid (by rw [← hr, ← hn, ← hm]; unfold regsE; rw [if_neg (by simpa using he), fun_at hg]; rfl)
    have HC := Lib.hid (fun W (hb : Below w.heap.size w W) => pasked_is (h.on hb) hl (ht.on hb) (pars_good he hg hn))
    obtain ⟨b, off, ha, hb, c0, c1, hf, hfi, hk0, hk1⟩ := fun_spot h hg
    have hlim := hl.funs fr hfi
    have HMY := Lib.hid (fun W (hb : Below w.heap.size w W) => pmany_any fr (hf.blocks.on hb) hlim.blocks hlim.ins)
    rw [hm] at HMY
    have hmn := hg.many
    rw [hm] at hmn
    have hnn : n ≤ 1000 := by rw [← hn, pars_at hg]; exact hl.parts _ (mem_getD (d := default) (by have := hg.s0; have := hg.s1; omega))
    unfold PrR.val FuR.val at *
    clear h hl ht hr he hg hn hm hf hfi hlim
    obtain ⟨ta, tc, types, fa, fc, funs⟩ := p
    obtain ⟨sig, ba, bc, blocks⟩ := fr
    dsimp only at *
    subst ha
    have HCC := Lib.hid (fun W (hB : Below w.heap.size w W) => And.intro ((hB.cell (p := ⟨b, off + k * 2, none⟩) hb).trans c0) ((hB.cell (p := ⟨b, off + k * 2 + 1, none⟩) hb).trans c1))
    clear c0 c1
    go_enter Tryd.func17, Tryd.ntmps17
    go_wp2_with fail
    refine (HC.out _ HW1.out.below).mono ?_
    rintro e w2 ⟨rfl, hb2⟩
    have HW2 := Lib.hid (HW1.out.on hb2)
    clear hb2
    have x0 := HW2.out.p.cells 0
    have x1 := HW2.out.p.cells 1
    obtain ⟨c0, c1⟩ := HCC.out _ HW2.out.below
    go_wp2_with fail
    refine (HMY.out _ HW2.out.below).mono ?_
    rintro e w3 ⟨rfl, hb3⟩
    have HW3 := Lib.hid (HW2.out.on hb3)
    clear hb3
    go_wp2_with fail
    go_ret2
    exact ⟨by rw [HZ.out] <;> rfl, HW3.out.below⟩
  · have HZ : Hid (r = (0, e0)) := Lib.hid (by rw [← hr]; unfold regsE; rw [if_pos (by rw [he]; exact z), he])
    have HC := Lib.hid (fun W (hb : Below w.heap.size w W) => pasked_is (h.on hb) hl (ht.on hb) (pars_bad he z))
    have ez : (e0 != 0) = true := bne_iff_ne.2 z
    unfold PrR.val at *
    clear h hl ht hr he z
    obtain ⟨ta, tc, types, fa, fc, funs⟩ := p
    dsimp only at *
    go_enter Tryd.func17, Tryd.ntmps17
    go_wp2_with fail
    refine (HC.out _ HW1.out.below).mono ?_
    rintro e w2 ⟨rfl, hb2⟩
    have HW2 := Lib.hid (HW1.out.on hb2)
    clear hb2
    go_wp2_with fail
    go_ret2
    exact ⟨by rw [HZ.out] <;> rfl, HW2.out.below⟩
/-- A place is looked for from a block on. -/
structure Seek (bs : List PBlk) (r0 b a : Nat) : Prop where
  same : whereB (bs.drop b) b a = whereB bs 0 r0
  in_ : a < manyB (bs.drop b)
theorem Seek.zero {bs : List PBlk} {r : Nat} (h : r < manyB bs) : Seek bs r 0 r := ⟨rfl, h⟩
theorem Seek.lt {bs : List PBlk} {r b a : Nat} (h : Seek bs r b a) : b < bs.length := by
  have := h.in_
  rcases Nat.lt_or_ge b bs.length with h' | h'
  · exact h'
  · rw [List.drop_eq_nil_of_le h'] at this
    exact absurd this (Nat.not_lt_zero _)
theorem drop_cons' {α : Type} [Inhabited α] {l : List α} {k : Nat} (h : k < l.length) : l.drop k = l.getD k default :: l.drop (k + 1) := by
  rw [List.drop_eq_getElem_cons h, getD_lt l h]
theorem Seek.done {bs : List PBlk} {r b a : Nat} (h : Seek bs r b a) (ha : a < (bs.getD b default).ins.length) : whereB bs 0 r = (b, a) := by
  rw [← h.same, drop_cons' h.lt]
  exact if_pos ha
theorem Seek.next {bs : List PBlk} {r b a : Nat} (h : Seek bs r b a) (ha : (bs.getD b default).ins.length ≤ a) : Seek bs r (b + 1) (a - (bs.getD b default).ins.length) := by
  have hs := h.same
  have hi := h.in_
  rw [drop_cons' h.lt] at hs hi
  have hs2 : whereB (bs.drop (b + 1)) (b + 1) (a - (bs.getD b default).ins.length) = whereB bs 0 r := by
    rw [← hs]
    exact (if_neg (by omega)).symm
  refine ⟨hs2, ?_⟩
  have : manyB (bs.getD b default :: bs.drop (b + 1)) = (bs.getD b default).ins.length + manyB (bs.drop (b + 1)) := by
    unfold manyB
    rw [List.map_cons, List.sum_cons]
  omega
set_option maxRecDepth 100000 in
set_option maxHeartbeats 1600000 in
theorem pplace_any {w : World} {p : PrR} (h : ProgIn w p) (hl : PrLim p) (ht : TabW w) (f r : Int) :
    Calls Tryd.prog 19 #[p.val, .int .i64 f, .int .i64 r] w fun e w' => e = .returned (.tuple #[.int .i64 (placeE p.data f r).1, .int .i64 (placeE p.data f r).2.1, .int .i64 (placeE p.data f r).2.2]) ∧ Below w.heap.size w w' := by
  have hfl := hl.many
  obtain ⟨e0, he⟩ : ∃ e, askedP p.data f = e := ⟨_, rfl⟩
  obtain ⟨q, hq⟩ : ∃ e, placeE p.data f r = e := ⟨_, rfl⟩
  rw [hq]
  have HW1 := Lib.hid (BoxP.new w #[.slice p.ta p.types.length p.tc, .slice p.fa p.funs.length p.fc])
  by_cases z : e0 = 0
  · subst z
    obtain ⟨k, rfl, fr, hg⟩ := asked_ok he
    obtain ⟨n, hn⟩ : ∃ n, parsP p.data fr.data = n := ⟨_, rfl⟩
    obtain ⟨m, hm⟩ : ∃ n, manyB (fr.blocks.map BlR.data) = n := ⟨_, rfl⟩
    obtain ⟨nm, hnm0⟩ : ∃ v, n + m = v := ⟨_, rfl⟩
    have hrg : regsP p.data fr.data = nm := by rw [← hnm0, ← hn, ← hm]; rfl
    have HQ : Hid (q = if inB r nm then (if r < n then ((-1 : Int), r, (0 : Int)) else ((((whereB (fr.blocks.map BlR.data) 0 (r.toNat - n)).1 : Nat) : Int), (((whereB (fr.blocks.map BlR.data) 0 (r.toNat - n)).2 : Nat) : Int), 0)) else (0, 0, 2)) := Lib.hid (by
      rw [← hq]; unfold placeE; rw [if_neg (by simpa using he), fun_at hg, hrg, hn]; rfl)
    have HC := Lib.hid (fun W (hb : Below w.heap.size w W) => pasked_is (h.on hb) hl (ht.on hb) (pars_good he hg hn))
    obtain ⟨b, off, ha, hb, c0, c1, hf, hfi, hk0, hk1⟩ := fun_spot h hg
    have hlim := hl.funs fr hfi
    have HMY := Lib.hid (fun W (hb : Below w.heap.size w W) => pmany_any fr (hf.blocks.on hb) hlim.blocks hlim.ins)
    rw [hm] at HMY
    have hmn := hg.many
    rw [hm] at hmn
    have hb16 := hg.b1
    have hnn : n ≤ 1000 := by rw [← hn, pars_at hg]; exact hl.parts _ (mem_getD (d := default) (by have := hg.s0; have := hg.s1; omega))
    have HSK : Hid (∀ r0, r0 < m → Seek (fr.blocks.map BlR.data) r0 0 r0) := Lib.hid (fun r0 h0 => Seek.zero (by rw [hm]; exact h0))
    have HBK := Lib.hid (fun W (hb : Below w.heap.size w W) (i : Nat) (hi : i < fr.blocks.length) => (hf.blocks.on hb).elem hi)
    have HLI := Lib.hid hlim.ins
    unfold PrR.val FuR.val at *
    clear h hl ht hq he hg hn hm hf hfi hlim hrg
    obtain ⟨ta, tc, types, fa, fc, funs⟩ := p
    obtain ⟨sig, ba, bc, blocks⟩ := fr
    dsimp only at *
    subst ha
    have HCC := Lib.hid (fun W (hB : Below w.heap.size w W) => And.intro ((hB.cell (p := ⟨b, off + k * 2, none⟩) hb).trans c0) ((hB.cell (p := ⟨b, off + k * 2 + 1, none⟩) hb).trans c1))
    have hnm : (n : Int) + (m : Int) = (nm : Int) := by omega
    clear c0 c1
    obtain ⟨ib, hib⟩ : ∃ v, inB r nm = v := ⟨_, rfl⟩
    have HI := Lib.hid hib
    rw [hib] at HQ
    cases ib with
    | false =>
      have HZ : Hid (q = (0, 0, 2)) := Lib.hid (by rw [HQ.out]; rfl)
      clear hib
      go_enter Tryd.func19, Tryd.ntmps19
      go_wp2_with fail
      refine (HC.out _ HW1.out.below).mono ?_
      rintro e w2 ⟨rfl, hb2⟩
      have HW2 := Lib.hid (HW1.out.on hb2)
      clear hb2
      have x0 := HW2.out.p.cells 0
      have x1 := HW2.out.p.cells 1
      obtain ⟨c0, c1⟩ := HCC.out _ HW2.out.below
      go_wp2_with fail
      refine (HMY.out _ HW2.out.below).mono ?_
      rintro e w3 ⟨rfl, hb3⟩
      have HW3 := Lib.hid (HW2.out.on hb3)
      clear hb3
      go_wp2_with fail
      refine (pbelow_is HI.out _).mono ?_
      rintro e w9 ⟨rfl, rfl⟩
      go_wp2_with fail
      go_ret3
      exact ⟨by rw [HZ.out] <;> rfl, HW3.out.below⟩
    | true =>
      obtain ⟨r0, r1⟩ := inB_iff.1 hib
      obtain ⟨rn, rfl⟩ : ∃ rn : Nat, r = rn := ⟨r.toNat, by omega⟩
      rw [Int.toNat_natCast] at HQ
      clear hib
      by_cases hp : (rn : Int) < n
      · have HZ : Hid (q = (-1, (rn : Int), 0)) := Lib.hid (by rw [HQ.out, if_pos rfl, if_pos hp])
        go_enter Tryd.func19, Tryd.ntmps19
        go_wp2_with fail
        refine (HC.out _ HW1.out.below).mono ?_
        rintro e w2 ⟨rfl, hb2⟩
        have HW2 := Lib.hid (HW1.out.on hb2)
        clear hb2
        have x0 := HW2.out.p.cells 0
        have x1 := HW2.out.p.cells 1
        obtain ⟨c0, c1⟩ := HCC.out _ HW2.out.below
        go_wp2_with fail
        refine (HMY.out _ HW2.out.below).mono ?_
        rintro e w3 ⟨rfl, hb3⟩
        have HW3 := Lib.hid (HW2.out.on hb3)
        clear hb3
        go_wp2_with fail
        refine (pbelow_is HI.out _).mono ?_
        rintro e w9 ⟨rfl, rfl⟩
        go_wp2_with fail
        go_ret3
        exact ⟨by rw [HZ.out] <;> rfl, HW3.out.below⟩
      · obtain ⟨ra, hra⟩ : ∃ ra : Nat, rn - n = ra := ⟨_, rfl⟩
        have hrm : ra < m := by omega
        have hri : (rn : Int) - (n : Int) = (ra : Int) := by omega
        have HZ : Hid (q = ((((whereB (blocks.map BlR.data) 0 ra).1 : Nat) : Int), (((whereB (blocks.map BlR.data) 0 ra).2 : Nat) : Int), 0)) := Lib.hid (by rw [HQ.out, if_pos rfl, if_neg hp, hra])
        have HS0 := Lib.hid (HSK.out ra hrm)
        clear hra
        go_enter Tryd.func19, Tryd.ntmps19
        go_wp2_with fail
        refine (HC.out _ HW1.out.below).mono ?_
        rintro e w2 ⟨rfl, hb2⟩
        have HW2 := Lib.hid (HW1.out.on hb2)
        clear hb2
        have x0 := HW2.out.p.cells 0
        have x1 := HW2.out.p.cells 1
        obtain ⟨c0, c1⟩ := HCC.out _ HW2.out.below
        go_wp2_with fail
        refine (HMY.out _ HW2.out.below).mono ?_
        rintro e w3 ⟨rfl, hb3⟩
        have HW3 := Lib.hid (HW2.out.on hb3)
        clear hb3 x0 x1 c0 c1
        go_wp2_with fail
        refine (pbelow_is HI.out _).mono ?_
        rintro e w9 ⟨rfl, rfl⟩
        go_wp2_with fail
        have x0 := HW3.out.p.cells 0
        have x1 := HW3.out.p.cells 1
        obtain ⟨c0, c1⟩ := HCC.out _ HW3.out.below
        go_loop [6, 7] (fun vb va => ∃ bn an : Nat, vb = .int .i64 bn ∧ va = .int .i64 an ∧ an ≤ 1000 ∧ Hid (Seek (blocks.map BlR.data) ra bn an)) (fun vb _ => blocks.length - (intOf vb).toNat)
        case atStart => exact ⟨0, ra, rfl, rfl, by omega, HS0⟩
        case round =>
          obtain ⟨bn, an, rfl, rfl, han, HS⟩ := hrel
          have hlt : bn < blocks.length := by have := HS.out.lt; rwa [List.length_map] at this
          have hb0 : (0 : Int) ≤ (bn : Int) := Int.natCast_nonneg _
          have hb1 : (bn : Int) < (blocks.length : Int) := by omega
          obtain ⟨bb, ob, bl, rfl, hbb, ⟨d0, _, _, _, _⟩, _, HEB⟩ := HBK.out w3 HW3.out.below bn hlt
          have HIL : Hid (((blocks.map BlR.data).getD bn default).ins.length = bl.ins.length) := Lib.hid (blk_ins hlt HEB.out)
          have hil := HLI.out bl (by rw [← HEB.out]; exact mem_getD hlt)
          obtain ⟨il, hilz⟩ : ∃ n, bl.ins.length = n := ⟨_, rfl⟩
          rw [hilz] at d0 HIL hil
          have HLT := Lib.hid hlt
          clear hilz hlt
          by_cases hcmp : il ≤ an
          · have hci : (il : Int) ≤ (an : Int) := by omega
            have hsu : (an : Int) - (il : Int) = ((an - il : Nat) : Int) := by omega
            have HN := Lib.hid (HS.out.next (by rw [HIL.out]; exact hcmp))
            rw [HIL.out] at HN
            have HAN : Hid (an - il ≤ 1000) := Lib.hid (by omega)
            clear hcmp
            have hanz : (an : Int) ≤ 1000 := by omega
            go_wp2_with fail
            go_round
            case rel => exact ⟨bn + 1, an - il, by go_num, by rw [← hsu]; first | done | go_num, HAN.out, HN⟩
            case measure => have := HLT.out; simp [intOf]; omega
          · have hci : ¬ (il : Int) ≤ (an : Int) := by omega
            have HD := Lib.hid (HS.out.done (by rw [HIL.out]; omega))
            clear hcmp
            go_wp2_with fail
            go_ret3
            exact ⟨by rw [HZ.out, HD.out] <;> rfl, HW3.out.below⟩
  · have HZ : Hid (q = (0, 0, e0)) := Lib.hid (by rw [← hq]; unfold placeE; rw [if_pos (by rw [he]; exact z), he])
    have HC := Lib.hid (fun W (hb : Below w.heap.size w W) => pasked_is (h.on hb) hl (ht.on hb) (pars_bad he z))
    have ez : (e0 != 0) = true := bne_iff_ne.2 z
    unfold PrR.val at *
    clear h hl ht hq he z
    obtain ⟨ta, tc, types, fa, fc, funs⟩ := p
    dsimp only at *
    go_enter Tryd.func19, Tryd.ntmps19
    go_wp2_with fail
    refine (HC.out _ HW1.out.below).mono ?_
    rintro e w2 ⟨rfl, hb2⟩
    have HW2 := Lib.hid (HW1.out.on hb2)
    clear hb2
    go_wp2_with fail
    go_ret3
    exact ⟨by rw [HZ.out] <;> rfl, HW2.out.below⟩
theorem BlksAt.func {w : World} {f : FuR} (h : f.Ok w) {n : Nat} (hn : n ≤ f.blocks.length) : BlksAt w f.ba f.bc (f.blocks.take n) := h.blocks.take hn
set_option maxRecDepth 100000 in
set_option maxHeartbeats 1600000 in
theorem preg_any {w : World} {p : PrR} (h : ProgIn w p) (hl : PrLim p) (ht : TabW w) (f b i : Int) :
    Calls Tryd.prog 21 #[p.val, .int .i64 f, .int .i64 b, .int .i64 i] w fun e w' => e = .returned (.tuple #[.int .i64 (regE p.data f b i).1, .int .i64 (regE p.data f b i).2]) ∧ Below w.heap.size w w' := by
  have hfl := hl.many
  obtain ⟨e0, he⟩ : ∃ e, askedP p.data f = e := ⟨_, rfl⟩
  obtain ⟨q, hq⟩ : ∃ e, regE p.data f b i = e := ⟨_, rfl⟩
  rw [hq]
  have HW1 := Lib.hid (BoxP.new w #[.slice p.ta p.types.length p.tc, .slice p.fa p.funs.length p.fc])
  by_cases z : e0 = 0
  · subst z
    obtain ⟨k, rfl, fr, hg⟩ := asked_ok he
    obtain ⟨n, hn⟩ : ∃ n, parsP p.data fr.data = n := ⟨_, rfl⟩
    have HQ : Hid (q = if inB b fr.blocks.length && inB i (fr.blocks.getD b.toNat default).ins.length then (((n + manyB ((fr.blocks.map BlR.data).take b.toNat) + i.toNat : Nat) : Int), 0) else (0, 2)) := Lib.hid (by rw [← hq, reg_in hg he, hn])
    have HC := Lib.hid (fun W (hb : Below w.heap.size w W) => pasked_is (h.on hb) hl (ht.on hb) (pars_good he hg hn))
    obtain ⟨bf, of_, ha, hbf, c0, c1, hf, hfi, hk0, hk1⟩ := fun_spot h hg
    have hlim := hl.funs fr hfi
    have HMY := Lib.hid (fun W (hb : Below w.heap.size w W) (l : List BlR) (hx : BlksAt W fr.ba fr.bc l) (h1 : l.length ≤ 1000) (h2 : ∀ r ∈ l, r.ins.length ≤ 1000000) => pmany_any (w := W) ⟨0, fr.ba, fr.bc, l⟩ hx h1 h2)
    have HTK := Lib.hid (fun W (hb : Below w.heap.size w W) (n : Nat) (hn : n ≤ fr.blocks.length) => (hf.blocks.on hb).take hn)
    have hb16 := hg.b1
    have hfit := hf.blocks.hdr.fit
    have hnn : n ≤ 1000 := by rw [← hn, pars_at hg]; exact hl.parts _ (mem_getD (d := default) (by have := hg.s0; have := hg.s1; omega))
    have HMB : Hid (∀ j, manyB ((fr.blocks.map BlR.data).take j) ≤ 128) := Lib.hid (fun j => Nat.le_trans (many_le _ _) hg.many)
    have HBK := Lib.hid (fun W (hb : Below w.heap.size w W) (i : Nat) (hi : i < fr.blocks.length) => (hf.blocks.on hb).elem hi)
    have HIN := Lib.hid (hlim.ins)
    unfold PrR.val FuR.val at *
    clear h hl ht hq he hg hn hf hfi hlim
    obtain ⟨ta, tc, types, fa, fc, funs⟩ := p
    obtain ⟨sig, ba, bc, blocks⟩ := fr
    dsimp only at *
    subst ha
    have HCC := Lib.hid (fun W (hB : Below w.heap.size w W) => (hB.cell (p := ⟨bf, of_ + k * 2 + 1, none⟩) hbf).trans c1)
    clear c0 c1
    obtain ⟨ib, hib⟩ : ∃ v, inB b blocks.length = v := ⟨_, rfl⟩
    have HI := Lib.hid hib
    rw [hib] at HQ
    cases ib with
    | false =>
      have HZ : Hid (q = (0, 2)) := Lib.hid (by rw [HQ.out]; rfl)
      clear hib
      go_enter Tryd.func21, Tryd.ntmps21
      go_wp2_with fail
      refine (HC.out _ HW1.out.below).mono ?_
      rintro e w2 ⟨rfl, hb2⟩
      have HW2 := Lib.hid (HW1.out.on hb2)
      clear hb2
      have x0 := HW2.out.p.cells 0
      have x1 := HW2.out.p.cells 1
      have c1 := HCC.out _ HW2.out.below
      go_wp2_with fail
      refine (pbelow_is HI.out _).mono ?_
      rintro e w9 ⟨rfl, rfl⟩
      go_wp2_with fail
      go_ret2
      exact ⟨by rw [HZ.out] <;> rfl, HW2.out.below⟩
    | true =>
      obtain ⟨b0, b1⟩ := inB_iff.1 hib
      obtain ⟨bn, rfl⟩ : ∃ bn : Nat, b = bn := ⟨b.toNat, by omega⟩
      have hlt : bn < blocks.length := by omega
      obtain ⟨bb, ob, bl, rfl, hbb, ⟨d0, _, _, _, _⟩, _, HEB⟩ := HBK.out w (Below.refl _ _) bn hlt
      have HD0 := Lib.hid (fun W (hb : Below w.heap.size w W) => (hb.cell (p := ⟨bb, ob + bn * 5, none⟩) hbb).trans d0)
      obtain ⟨mn, hmn⟩ : ∃ n, manyB ((blocks.map BlR.data).take bn) = n := ⟨_, rfl⟩
      have hmn1 : mn ≤ 128 := by rw [← hmn]; exact HMB.out bn
      have HQ2 : Hid (q = if inB i bl.ins.length then (((n + mn + i.toNat : Nat) : Int), 0) else (0, 2)) := Lib.hid (by
        rw [HQ.out, Int.toNat_natCast, HEB.out, hmn, Bool.true_and])
      have hil := HIN.out bl (by rw [← HEB.out]; exact mem_getD hlt)
      have htl : (blocks.take bn).length = bn := by rw [List.length_take]; omega
      have HTL : Hid (∀ W, Below w.heap.size w W → Calls Tryd.prog 40 #[.agg #[.int .i64 0, .slice (some ⟨bb, ob, none⟩) bn bc]] W fun e w' => e = .returned (.int .i64 mn) ∧ Below W.heap.size W w') := Lib.hid (fun W hW => by
        have hx := HTK.out W hW bn (by omega)
        have := HMY.out W hW (blocks.take bn) hx (by rw [htl]; omega) (fun r hr => HIN.out r (List.mem_of_mem_take hr))
        rw [htl, show (blocks.take bn).map BlR.data = (blocks.map BlR.data).take bn from List.map_take .., hmn] at this
        exact this)
      obtain ⟨il, hilz⟩ : ∃ v, bl.ins.length = v := ⟨_, rfl⟩
      rw [hilz] at hil HD0 HQ2
      clear d0 hib HQ hmn htl HMY HTK HMB hilz HBK hlt
      obtain ⟨ii, hii⟩ : ∃ v, inB i il = v := ⟨_, rfl⟩
      have HII := Lib.hid hii
      rw [hii] at HQ2
      cases ii with
      | false =>
        have HZ : Hid (q = (0, 2)) := Lib.hid (by rw [HQ2.out]; rfl)
        clear hii
        go_enter Tryd.func21, Tryd.ntmps21
        go_wp2_with fail
        refine (HC.out _ HW1.out.below).mono ?_
        rintro e w2 ⟨rfl, hb2⟩
        have HW2 := Lib.hid (HW1.out.on hb2)
        clear hb2
        have x0 := HW2.out.p.cells 0
        have x1 := HW2.out.p.cells 1
        have c1 := HCC.out _ HW2.out.below
        have d0 := HD0.out _ HW2.out.below
        go_wp2_with fail
        refine (pbelow_is HI.out _).mono ?_
        rintro e w9 ⟨rfl, rfl⟩
        go_wp2_with fail
        refine (pbelow_is HII.out _).mono ?_
        rintro e w9 ⟨rfl, rfl⟩
        go_wp2_with fail
        go_ret2
        exact ⟨by rw [HZ.out] <;> rfl, HW2.out.below⟩
      | true =>
        obtain ⟨i0, i1⟩ := inB_iff.1 hii
        obtain ⟨j, rfl⟩ : ∃ j : Nat, i = j := ⟨i.toNat, by omega⟩
        have hjz : (j : Int) ≤ 1000000 := by omega
        have hmz : (mn : Int) ≤ 128 := by omega
        have hnz : (n : Int) ≤ 1000 := by omega
        have HZ : Hid (q = (((n + mn + j : Nat) : Int), 0)) := Lib.hid (by rw [HQ2.out, Int.toNat_natCast]; rfl)
        have hbz0 : (0 : Int) ≤ (bn : Int) := Int.natCast_nonneg _
        have hbz1 : (bn : Int) ≤ (bc : Int) := by omega
        clear hii hil
        go_enter Tryd.func21, Tryd.ntmps21
        go_wp2_with fail
        refine (HC.out _ HW1.out.below).mono ?_
        rintro e w2 ⟨rfl, hb2⟩
        have HW2 := Lib.hid (HW1.out.on hb2)
        clear hb2
        have x0 := HW2.out.p.cells 0
        have x1 := HW2.out.p.cells 1
        have c1 := HCC.out _ HW2.out.below
        have d0 := HD0.out _ HW2.out.below
        go_wp2_with fail
        refine (pbelow_is HI.out _).mono ?_
        rintro e w9 ⟨rfl, rfl⟩
        go_wp2_with fail
        refine (pbelow_is HII.out _).mono ?_
        rintro e w9 ⟨rfl, rfl⟩
        go_wp2_with fail
        refine (HTL.out _ HW2.out.below).mono ?_
        rintro e w3 ⟨rfl, hb3⟩
        have HW3 := Lib.hid (HW2.out.on hb3)
        clear hb3
        go_wp2_with fail
        go_ret2
        exact ⟨by rw [HZ.out] <;> rfl, HW3.out.below⟩
  · have HZ : Hid (q = (0, e0)) := Lib.hid (by rw [← hq]; unfold regE; rw [if_pos (by rw [he]; exact z), he])
    have HC := Lib.hid (fun W (hb : Below w.heap.size w W) => pasked_is (h.on hb) hl (ht.on hb) (pars_bad he z))
    have ez : (e0 != 0) = true := bne_iff_ne.2 z
    unfold PrR.val at *
    clear h hl ht hq he z
    obtain ⟨ta, tc, types, fa, fc, funs⟩ := p
    dsimp only at *
    go_enter Tryd.func21, Tryd.ntmps21
    go_wp2_with fail
    refine (HC.out _ HW1.out.below).mono ?_
    rintro e w2 ⟨rfl, hb2⟩
    have HW2 := Lib.hid (HW1.out.on hb2)
    clear hb2
    go_wp2_with fail
    go_ret2
    exact ⟨by rw [HZ.out] <;> rfl, HW2.out.below⟩
end Go.Proofs.YtcbhmpkginebaaaDoor
namespace Go.Proofs.YtcbhmpkginebaaaDoor
set_option linter.unusedVariables false
set_option linter.unusedSimpArgs false
open Go.ChangeShapes Go.WideShapes Go.ChangeAt Go.RowKit

/-- No list of instructions is greater than memory. -/
def ProgFit (p : PrR) : Prop := ∀ f ∈ p.funs, ∀ b ∈ f.blocks, b.ins.length ≤ 4000000000000
structure InLim (x : InR) : Prop where
  args : x.args.length ≤ 20
  froms : x.from_.length ≤ 20
structure BlLim (m : Nat) (b : BlR) : Prop where
  ins : b.ins.length ≤ m
  each : ∀ x ∈ b.ins, InLim x
structure FuGr (m : Nat) (f : FuR) : Prop where
  blocks : f.blocks.length ≤ 20
  each : ∀ b ∈ f.blocks, BlLim m b
structure PrGr (m : Nat) (p : PrR) : Prop where
  types : p.types.length ≤ 20
  parts : ∀ t ∈ p.types, t.parts.length ≤ 20
  funs : p.funs.length ≤ 10
  each : ∀ f ∈ p.funs, FuGr m f
theorem FuGr.lim {m : Nat} {f : FuR} (h : FuGr m f) (hm : m ≤ 1000) : FuLim f :=
  ⟨Nat.le_trans h.blocks (by omega), fun b hb => Nat.le_trans (h.each b hb).ins (by omega), fun b hb x hx => Nat.le_trans ((h.each b hb).each x hx).args (by omega), fun b hb x hx => Nat.le_trans ((h.each b hb).each x hx).froms (by omega)⟩
theorem PrGr.lim {m : Nat} {p : PrR} (h : PrGr m p) (hm : m ≤ 1000) : PrLim p :=
  ⟨fun t ht => Nat.le_trans (h.parts t ht) (by omega), fun f hf => (h.each f hf).lim hm, Nat.le_trans h.funs (by omega)⟩
theorem all_at {α : Type} [Inhabited α] {P : α → Prop} {l : List α} {k : Nat} (h : ∀ j, j < k → P (l.getD j default)) (hk : l.length ≤ k) : ∀ x ∈ l, P x := by
  intro x hx
  obtain ⟨i, hi, rfl⟩ := List.mem_iff_getElem.1 hx
  have := h i (by omega)
  rwa [getD_lt l hi] at this
theorem all_next {α : Type} [Inhabited α] {P : α → Prop} {l : List α} {k : Nat} (h : ∀ j, j < k → P (l.getD j default)) (hk : P (l.getD k default)) : ∀ j, j < k + 1 → P (l.getD j default) := by
  intro j hj
  by_cases e : j = k
  · rw [e]; exact hk
  · exact h j (by omega)
theorem great_few {rows : List TyR} (h : greatT rows = false) : rows.length ≤ 20 ∧ ∀ t ∈ rows, t.parts.length ≤ 20 := by
  unfold greatT at h
  rw [Bool.or_eq_false_iff, Bool.not_eq_false', decide_eq_false_iff_not] at h
  refine ⟨by omega, fun t ht => ?_⟩
  have h1 := h.1
  rw [List.take_of_length_le (by omega), List.all_eq_true] at h1
  simpa using h1 t ht
theorem rgreatT_is {w : World} {lo B : Nat} {A : Option Addr} {c : Nat} {rows : List TyR} (hh : Hdr A rows.length c) (hx : TypsAt w lo B A rows) {b : Bool} (hb : greatT rows = b) :
    Calls Tryd.prog 36 #[.slice A rows.length c] w fun e w' => e = .returned (.bool b) ∧ w = w' := hb ▸ great_any hh hx
def SomeGreat (m : Nat) (p : PrR) (w : World) (e : Ending) (w' : World) : Prop := ∃ g, e = .returned (.bool g) ∧ (g = false → PrGr m p) ∧ Below w.heap.size w w'
set_option maxRecDepth 100000 in
set_option maxHeartbeats 3200000 in
theorem rgreat6_any {w : World} {p : PrR} (h : ProgIn w p) (hf : ProgFit p) {m : Nat} (hm : m ≤ 1000) :
    Calls Tryd.prog 15 #[p.val, .int .i64 m] w (SomeGreat m p w) := by
  have hfl := h.funs.hdr.cle
  have HP := Lib.hid h
  have HF := Lib.hid hf
  obtain ⟨g0, hg0⟩ : ∃ v, greatT p.types = v := ⟨_, rfl⟩
  have HG : Hid (∀ W, Below w.heap.size w W → Calls Tryd.prog 36 #[.slice p.ta p.types.length p.tc] W fun e w' => e = .returned (.bool g0) ∧ W = w') := Lib.hid (fun W hb => rgreatT_is (h.types.on hb).hdr (h.types.on hb).rows hg0)
  have HG0 := Lib.hid hg0
  unfold PrR.val at *
  clear h hf hg0
  obtain ⟨ta, tc, types, fa, fc, funs⟩ := p
  dsimp only at *
  have HW1 := Lib.hid (BoxP.new w #[.slice ta types.length tc, .slice fa funs.length fc])
  have x0 := HW1.out.p.cells 0
  have x1 := HW1.out.p.cells 1
  have hmz : (m : Int) ≤ 1000 := by omega
  cases g0 with
  | true =>
    go_enter Tryd.func15, Tryd.ntmps15
    go_wp2_with fail
    refine (HG.out _ HW1.out.below).mono ?_
    rintro e w1 ⟨rfl, rfl⟩
    go_wp2_with fail
    go_ret
    exact ⟨_, rfl, fun h => absurd h (by decide), HW1.out.below⟩
  | false =>
    by_cases f10 : 10 < funs.length
    · have f10z : 10 < (funs.length : Int) := by omega
      clear f10
      go_enter Tryd.func15, Tryd.ntmps15
      go_wp2_with fail
      refine (HG.out _ HW1.out.below).mono ?_
      rintro e w1 ⟨rfl, rfl⟩
      go_wp2_with fail
      go_ret
      exact ⟨_, rfl, fun h => absurd h (by decide), HW1.out.below⟩
    · have f10z : ¬ 10 < (funs.length : Int) := by omega
      have HF10 := Lib.hid f10
      have hf10 : (funs.length : Int) ≤ 10 := by omega
      clear f10
      go_enter Tryd.func15, Tryd.ntmps15
      go_wp2_with fail
      refine (HG.out _ HW1.out.below).mono ?_
      rintro e w1 ⟨rfl, rfl⟩
      go_wp2_with fail
      go_loop [5, 6] (fun n i => ∃ k nn : Nat, k ≤ funs.length ∧ i = .int .i64 k ∧ n = .int .i64 nn ∧ nn ≤ m ∧ Hid (∀ j, j < k → FuGr m (funs.getD j default))) (fun _ i => funs.length - (intOf i).toNat)
      case atStart => exact ⟨0, 0, Nat.zero_le _, rfl, rfl, Nat.zero_le _, Lib.hid (fun j hj => absurd hj (by omega))⟩
      case round =>
        obtain ⟨k, nn, hk, rfl, rfl, hnn, HA⟩ := hrel
        have hk0 : (0 : Int) ≤ (k : Int) := Int.natCast_nonneg _
        have hnz : (nn : Int) ≤ 1000 := by omega
        by_cases hlt : k < funs.length
        · have hk1 : (k : Int) < (funs.length : Int) := by omega
          obtain ⟨b, off, fr, rfl, hb, ⟨c0, c1⟩, hfr, HE⟩ := (HP.out.on HW1.out.below).funs.elem hlt
          have HFM : Hid (fr ∈ funs) := Lib.hid (by rw [← HE.out]; exact mem_getD hlt)
          have HLT := Lib.hid hlt
          obtain ⟨sig, ba, bc, blocks⟩ := fr
          dsimp only at *
          have hbl := hfr.blocks.hdr.cle
          dsimp only at hbl
          have HFR := Lib.hid hfr
          clear hlt hfr
          by_cases b20 : 20 < blocks.length
          · have b20z : 20 < (blocks.length : Int) := by omega
            clear b20
            go_wp2_with fail
            go_ret
            exact ⟨_, rfl, fun h => absurd h (by decide), HW1.out.below⟩
          · have b20z : ¬ 20 < (blocks.length : Int) := by omega
            have HB20 := Lib.hid b20
            clear b20
            go_wp2_with fail
            go_loop [5, 7] (fun n i => ∃ j nn : Nat, j ≤ blocks.length ∧ i = .int .i64 j ∧ n = .int .i64 nn ∧ nn ≤ m ∧ Hid (∀ i, i < j → BlLim m (blocks.getD i default))) (fun _ i => blocks.length - (intOf i).toNat)
            case atStart => exact ⟨0, nn, Nat.zero_le _, rfl, rfl, hnn, Lib.hid (fun j hj => absurd hj (by omega))⟩
            case round =>
              clear hnn hnz
              obtain ⟨j, n2, hj, rfl, rfl, hn2, HB⟩ := hrel
              have hj0 : (0 : Int) ≤ (j : Int) := Int.natCast_nonneg _
              have hnz : (n2 : Int) ≤ 1000 := by omega
              by_cases hlt : j < blocks.length
              · have hj1 : (j : Int) < (blocks.length : Int) := by omega
                obtain ⟨bb, ob, br, rfl, hbb, ⟨d0, _, _, _, _⟩, hbr, HEB⟩ := HFR.out.blocks.elem hlt
                have hfit : br.ins.length ≤ 4000000000000 := HF.out _ HFM.out br (by dsimp only; rw [← HEB.out]; exact mem_getD hlt)
                have HJT := Lib.hid hlt
                obtain ⟨ia, ic, ins, kind, ea, et, el⟩ := br
                dsimp only at *
                have HBR := Lib.hid hbr
                have hiz : (ins.length : Int) ≤ 4000000000000 := by omega
                clear hlt hbr
                by_cases sm : m < n2 + ins.length
                · have smz : (m : Int) < (n2 : Int) + (ins.length : Int) := by omega
                  clear sm hfit
                  go_wp2_with fail
                  go_ret
                  exact ⟨_, rfl, fun h => absurd h (by decide), HW1.out.below⟩
                · have smz : ¬ (m : Int) < (n2 : Int) + (ins.length : Int) := by omega
                  have HSM := Lib.hid sm
                  clear sm hfit
                  go_wp2_with fail
                  go_loop [9] (fun i => ∃ q : Nat, q ≤ ins.length ∧ i = .int .i64 q ∧ Hid (∀ i, i < q → InLim (ins.getD i default))) (fun i => ins.length - (intOf i).toNat)
                  case atStart => exact ⟨0, Nat.zero_le _, rfl, Lib.hid (fun j hj => absurd hj (by omega))⟩
                  case round =>
                    obtain ⟨q, hq, rfl, HI⟩ := hrel
                    have hq0 : (0 : Int) ≤ (q : Int) := Int.natCast_nonneg _
                    by_cases hlt : q < ins.length
                    · have hq1 : (q : Int) < (ins.length : Int) := by omega
                      obtain ⟨bi, oi, ir, rfl, hbi, ⟨_, _, _, _, _, i5, i6⟩, hir, HEI⟩ := HBR.out.ins.elem hlt
                      have hal := hir.ahdr.cle
                      have hfl2 := hir.fhdr.cle
                      have HQT := Lib.hid hlt
                      clear hlt hir
                      obtain ⟨la, hla⟩ : ∃ v, ir.args.length = v := ⟨_, rfl⟩
                      obtain ⟨lf, hlf⟩ : ∃ v, ir.from_.length = v := ⟨_, rfl⟩
                      rw [hla] at i5 hal
                      rw [hlf] at i6 hfl2
                      have HLA := Lib.hid hla
                      have HLF := Lib.hid hlf
                      clear hla hlf
                      by_cases a20 : 20 < la
                      · have a20z : 20 < (la : Int) := by omega
                        clear a20
                        go_wp2_with fail
                        go_ret
                        exact ⟨_, rfl, fun h => absurd h (by decide), HW1.out.below⟩
                      have a20z : ¬ 20 < (la : Int) := by omega
                      by_cases l20 : 20 < lf
                      · have l20z : 20 < (lf : Int) := by omega
                        clear a20 l20
                        go_wp2_with fail
                        go_ret
                        exact ⟨_, rfl, fun h => absurd h (by decide), HW1.out.below⟩
                      have l20z : ¬ 20 < (lf : Int) := by omega
                      have HL : Hid (InLim ir) := Lib.hid ⟨by rw [HLA.out]; omega, by rw [HLF.out]; omega⟩
                      clear a20 l20
                      go_wp2_with fail
                      go_round
                      case rel => exact ⟨q + 1, HQT.out, by go_num, Lib.hid (all_next HI.out (by rw [HEI.out]; exact HL.out))⟩
                      case measure => have := HQT.out; simp [intOf]; omega
                    · have hq1 : ¬ (q : Int) < (ins.length : Int) := by omega
                      have HL : Hid (BlLim m ⟨ia, ic, ins, kind, ea, et, el⟩) := Lib.hid ⟨by have := HSM.out; dsimp only; omega, all_at HI.out (by dsimp only; omega)⟩
                      clear hlt
                      go_wp2_with fail
                      go_round
                      case rel => exact ⟨j + 1, n2 + ins.length, HJT.out, by go_num, by go_num, by have := HSM.out; omega, Lib.hid (all_next HB.out (by rw [HEB.out]; exact HL.out))⟩
                      case measure => have := HJT.out; simp [intOf]; omega
              · have hj1 : ¬ (j : Int) < (blocks.length : Int) := by omega
                have HL : Hid (FuGr m ⟨sig, ba, bc, blocks⟩) := Lib.hid ⟨by have := HB20.out; dsimp only; omega, all_at HB.out (by dsimp only; omega)⟩
                have HN2 := Lib.hid hn2
                clear hlt
                go_wp2_with fail
                go_round
                case rel => exact ⟨k + 1, n2, HLT.out, by go_num, rfl, HN2.out, Lib.hid (all_next HA.out (by rw [HE.out]; exact HL.out))⟩
                case measure => have := HLT.out; simp [intOf]; omega
        · have hk1 : ¬ (k : Int) < (funs.length : Int) := by omega
          have HL : Hid (PrGr m ⟨ta, tc, types, fa, fc, funs⟩) := Lib.hid ⟨(great_few HG0.out).1, (great_few HG0.out).2, by have := HF10.out; dsimp only; omega, all_at HA.out (by dsimp only; omega)⟩
          clear hlt
          go_wp2_with fail
          go_ret
          exact ⟨_, rfl, fun _ => HL.out, HW1.out.below⟩
end Go.Proofs.YtcbhmpkginebaaaDoor
namespace Go.Proofs.YtcbhmpkginebaaaDoor
set_option linter.unusedVariables false
set_option linter.unusedSimpArgs false
open Go.ChangeShapes Go.WideShapes Go.ChangeAt Go.RowKit

def InR.cells (x : InR) : Array Value := #[.int .u8 x.op, .int .i64 x.ty, .int .i64 x.a, .int .i64 x.b, .int .i64 x.n, .slice x.aa x.args.length x.ac, .slice x.fa x.from_.length x.fc]
def chI : InR := ⟨1, 0, 0, 0, 5, none, 0, [], none, 0, []⟩
def chJ : InR := ⟨4, 0, 0, 0, 0, none, 0, [], none, 0, []⟩
/-- The program that the chapter's becomes by another second instruction, another arrow, another type, no blocks. -/
def chapB (g : Nat) (x : InR) (tgt : Int) : List BlR := [⟨some ⟨g + 1, 0, none⟩, 1, [chI], 1, 0, 1, 0⟩, ⟨some ⟨g + 3, 0, none⟩, 1, [x], 3, 1, tgt, 0⟩]
def chapR (g : Nat) (x : InR) (tgt sig : Int) (two : Bool) : PrR :=
  ⟨some ⟨g + 5, 0, none⟩, 2, [⟨1, 0, 0, none, 0, []⟩, ⟨3, 0, 0, none, 0, []⟩], some ⟨g + 7, 0, none⟩, 1, [⟨sig, bif two then some ⟨g + 6, 0, none⟩ else none, bif two then 2 else 0, bif two then chapB g x tgt else []⟩]⟩
def chapP (x : PIns) (tgt sig : Int) (two : Bool) : PProg :=
  ⟨[⟨1, 0, 0, []⟩, ⟨3, 0, 0, []⟩], [⟨sig, bif two then [⟨[⟨1, 0, 0, 0, 5, [], []⟩], ⟨1, 0, 1, 0⟩⟩, ⟨[x], ⟨3, 1, tgt, 0⟩⟩] else []⟩]⟩
theorem chap_data (g : Nat) (x : InR) (tgt sig : Int) (two : Bool) : (chapR g x tgt sig two).data = chapP x.data tgt sig two := by
  cases two <;> rfl
structure Chap (w : World) (g : Nat) (x : InR) (tgt sig : Int) (two : Bool) : Prop where
  b1 : Blk w (g + 1) 24 chI.cells
  b3 : Blk w (g + 3) 24 x.cells
  b5 : Blk w (g + 5) 78 #[.int .u8 1, .int .i64 0, .int .i64 0, .slice none 0 0, .int .u8 3, .int .i64 0, .int .i64 0, .slice none 0 0]
  b6 : Blk w (g + 6) 58 #[.slice (some ⟨g + 1, 0, none⟩) 1 1, .int .u8 1, .int .i64 0, .int .i64 1, .int .i64 0, .slice (some ⟨g + 3, 0, none⟩) 1 1, .int .u8 3, .int .i64 1, .int .i64 tgt, .int .i64 0]
  b7 : Blk w (g + 7) 55 #[.int .i64 sig, bif two then .slice (some ⟨g + 6, 0, none⟩) 2 2 else .slice none 0 0]
theorem Chap.on {w w' : World} {g : Nat} {x : InR} {tgt sig : Int} {two : Bool} (h : Chap w g x tgt sig two) (hb : Below w.heap.size w w') : Chap w' g x tgt sig two :=
  ⟨h.b1.beneath hb, h.b3.beneath hb, h.b5.beneath hb, h.b6.beneath hb, h.b7.beneath hb⟩
theorem ints_none {w : World} {B : Nat} : IntsAt w 0 B none [] := fun h => absurd h (Nat.lt_irrefl 0)
theorem hdr_none : Hdr none 0 0 := ⟨Nat.le_refl _, by unfold maxLen; omega, fun _ => ⟨rfl, rfl⟩⟩
theorem hdr_some (a : Addr) (n : Nat) (h : n ≤ 1000) : Hdr (some a) n n := ⟨Nat.le_refl _, by unfold maxLen; omega, fun e => by cases e⟩
theorem cells_one {w : World} {g s : Nat} {t : TypeId} {cs : Array Value} {f : Nat → Nat → Value} (h : Blk w g t cs) (n : Nat) (hf : ∀ i, i < n → ∀ j, j < s → cs[0 + i * s + j]? = some (f i j)) : CellsAt w 0 w.heap.size (some ⟨g, 0, none⟩) s n f :=
  fun _ => ⟨g, 0, rfl, Nat.zero_le _, h.lt, fun i hi j hj => (h.cells _).trans (hf i hi j hj)⟩
theorem InsAt.one {w : World} {g : Nat} {x : InR} (h : Blk w g 24 x.cells) (hx : x.Ok w) : InsAt w (some ⟨g, 0, none⟩) 1 [x] := by
  refine ⟨hdr_some _ _ (by show 1 ≤ 1000; omega), cells_one h 1 ?_, ?_⟩
  · intro i hi j hj
    obtain rfl : i = 0 := by omega
    have : j = 0 ∨ j = 1 ∨ j = 2 ∨ j = 3 ∨ j = 4 ∨ j = 5 ∨ j = 6 := by omega
    rcases this with rfl | rfl | rfl | rfl | rfl | rfl | rfl <;> rfl
  · intro r hr
    rw [List.mem_singleton] at hr
    rw [hr]; exact hx
theorem chI_ok (w : World) : chI.Ok w := ⟨by decide, hdr_none, ints_none, hdr_none, ints_none⟩
theorem chJ_ok (w : World) : chJ.Ok w := ⟨by decide, hdr_none, ints_none, hdr_none, ints_none⟩
theorem Chap.types {w : World} {g : Nat} {x : InR} {tgt sig : Int} {two : Bool} (h : Chap w g x tgt sig two) : TabIn w (some ⟨g + 5, 0, none⟩) 2 [⟨1, 0, 0, none, 0, []⟩, ⟨3, 0, 0, none, 0, []⟩] := by
  refine ⟨hdr_some _ _ (by decide), cells_one h.b5 2 ?_, ?_⟩
  · intro i hi j hj
    have h1 : i = 0 ∨ i = 1 := by omega
    have h2 : j = 0 ∨ j = 1 ∨ j = 2 ∨ j = 3 := by omega
    rcases h1 with rfl | rfl <;> rcases h2 with rfl | rfl | rfl | rfl <;> rfl
  · intro r hr
    simp only [List.mem_cons, List.not_mem_nil, or_false] at hr
    rcases hr with rfl | rfl <;> exact ⟨by decide, hdr_none, ints_none⟩
theorem Chap.blocks {w : World} {g : Nat} {x : InR} {tgt sig : Int} {two : Bool} (h : Chap w g x tgt sig two) (hx : x.Ok w) : BlksAt w (some ⟨g + 6, 0, none⟩) 2 (chapB g x tgt) := by
  refine ⟨hdr_some _ _ (show 2 ≤ 1000 by omega), cells_one h.b6 2 ?_, ?_⟩
  · intro i hi j hj
    have h1 : i = 0 ∨ i = 1 := by omega
    have h2 : j = 0 ∨ j = 1 ∨ j = 2 ∨ j = 3 ∨ j = 4 := by omega
    rcases h1 with rfl | rfl <;> rcases h2 with rfl | rfl | rfl | rfl | rfl <;> rfl
  · intro r hr
    unfold chapB at hr
    simp only [List.mem_cons, List.not_mem_nil, or_false] at hr
    rcases hr with rfl | rfl
    · exact ⟨show 1 ≤ 255 by omega, InsAt.one h.b1 (chI_ok w)⟩
    · exact ⟨show 3 ≤ 255 by omega, InsAt.one h.b3 hx⟩
theorem Chap.prog {w : World} {g : Nat} {x : InR} {tgt sig : Int} {two : Bool} (h : Chap w g x tgt sig two) (hx : x.Ok w) : ProgIn w (chapR g x tgt sig two) := by
  refine ⟨h.types, hdr_some _ _ (show 1 ≤ 1000 by omega), ?_, ?_⟩
  · refine cells_one h.b7 1 ?_
    intro i hi j hj
    obtain rfl : i = 0 := by omega
    have h2 : j = 0 ∨ j = 1 := by omega
    rcases h2 with rfl | rfl <;> cases two <;> rfl
  · intro r hr
    rw [show (chapR g x tgt sig two).funs = [⟨sig, bif two then some ⟨g + 6, 0, none⟩ else none, bif two then 2 else 0, bif two then chapB g x tgt else []⟩] from rfl, List.mem_singleton] at hr
    subst hr
    refine ⟨?_⟩
    cases two with
    | true => exact h.blocks hx
    | false => exact ⟨hdr_none, fun h => absurd h (Nat.lt_irrefl 0), fun r hr => absurd hr List.not_mem_nil⟩
theorem chap_lim {g : Nat} {x : InR} {tgt sig : Int} {two : Bool} (h1 : x.args.length ≤ 1000) (h2 : x.from_.length ≤ 1000) : PrLim (chapR g x tgt sig two) := by
  refine ⟨?_, ?_, show 1 ≤ 1000 by omega⟩
  · intro t ht
    rw [show (chapR g x tgt sig two).types = [⟨1, 0, 0, none, 0, []⟩, ⟨3, 0, 0, none, 0, []⟩] from rfl] at ht
    simp only [List.mem_cons, List.not_mem_nil, or_false] at ht
    rcases ht with rfl | rfl <;> decide
  · intro f hf
    rw [show (chapR g x tgt sig two).funs = [⟨sig, bif two then some ⟨g + 6, 0, none⟩ else none, bif two then 2 else 0, bif two then chapB g x tgt else []⟩] from rfl, List.mem_singleton] at hf
    subst hf
    cases two with
    | false => exact ⟨by show 0 ≤ 1000; omega, fun b hb => absurd hb List.not_mem_nil, fun b hb => absurd hb List.not_mem_nil, fun b hb => absurd hb List.not_mem_nil⟩
    | true =>
      refine ⟨by show 2 ≤ 1000; omega, ?_, ?_, ?_⟩
      all_goals
        intro b hb
        replace hb : b ∈ chapB g x tgt := hb
        unfold chapB at hb
        simp only [List.mem_cons, List.not_mem_nil, or_false] at hb
      · rcases hb with rfl | rfl <;> (show 1 ≤ 1000000; omega)
      · intro y hy
        rcases hb with rfl | rfl
        · replace hy : y ∈ [chI] := hy
          rw [List.mem_singleton] at hy; subst hy; decide
        · replace hy : y ∈ [x] := hy
          rw [List.mem_singleton] at hy; subst hy; exact h1
      · intro y hy
        rcases hb with rfl | rfl
        · replace hy : y ∈ [chI] := hy
          rw [List.mem_singleton] at hy; subst hy; decide
        · replace hy : y ∈ [x] := hy
          rw [List.mem_singleton] at hy; subst hy; exact h2
def chapV (g : Nat) : Value := .agg #[.slice (some ⟨g + 5, 0, none⟩) 2 2, .slice (some ⟨g + 7, 0, none⟩) 1 1]
theorem chapV_val (g : Nat) (x : InR) (tgt sig : Int) (two : Bool) : (chapR g x tgt sig two).val = chapV g := rfl
theorem heap_far {w : World} {o : Obj} {g : Nat} {t : TypeId} {cs : Array Value} (h : Blk w g t cs) : Blk (w.alloc o) g t cs := h.alloc o
theorem blk_at (w : World) (t : TypeId) (cs : Array Value) (g : Nat) (h : w.heap.size = g) : Blk (w.alloc (.cells cs t)) g t cs := h ▸ Blk.new w t cs
set_option maxRecDepth 100000 in
set_option maxHeartbeats 3200000 in
theorem chapter_any (w : World) : Calls Tryd.prog 25 #[] w fun e w' => e = .returned (chapV w.heap.size) ∧ Chap w' w.heap.size chJ 0 1 true ∧ Below w.heap.size w w' := by
  go_enter Tryd.func25, Tryd.ntmps25
  go_wp2_with fail
  refine bodyPost_ret (v := chapV w.heap.size) (by simp [results, Tryd.results25, go_sem, chapV]) rfl ?_
  refine ⟨rfl, ⟨?_, ?_, ?_, ?_, ?_⟩, ?_⟩
  · exact ((((((blk_at _ _ _ _ (by simp)).alloc _).alloc _).alloc _).alloc _).alloc _).alloc _
  · exact ((((blk_at _ _ _ _ (by simp)).alloc _).alloc _).alloc _).alloc _
  · exact ((blk_at _ _ _ _ (by simp)).alloc _).alloc _
  · exact (blk_at _ _ _ _ (by simp)).alloc _
  · exact blk_at _ _ _ _ (by simp)
  · repeat (first | exact Below.refl _ _ | refine Below.alloc ?_ (by simp <;> omega) _)
theorem ch_ok : checkP (chapP chJ.data 0 1 true) = 0 := by decide
theorem ch_regs : regsE (chapP chJ.data 0 1 true) 0 = (2, 0) := by decide
theorem ch_place : placeE (chapP chJ.data 0 1 true) 0 1 = (1, 0, 0) := by decide
end Go.Proofs.YtcbhmpkginebaaaDoor
namespace Go.Proofs.YtcbhmpkginebaaaDoor
set_option linter.unusedVariables false
set_option linter.unusedSimpArgs false
open Go.ChangeShapes Go.WideShapes Go.ChangeAt Go.RowKit

section
variable {w : World} {g : Nat} {x : InR} {tgt sig : Int} {two : Bool}
theorem chap_regs (h : Chap w g x tgt sig two) (hx : x.Ok w) (ht : TabW w) (h1 : x.args.length ≤ 1000) (h2 : x.from_.length ≤ 1000) {f a b : Int} (hr : regsE (chapP x.data tgt sig two) f = (a, b)) :
    Calls Tryd.prog 17 #[chapV g, .int .i64 f] w fun e w' => e = .returned (.tuple #[.int .i64 a, .int .i64 b]) ∧ Below w.heap.size w w' := by
  have := pregs_any (h.prog hx) (chap_lim h1 h2) ht f
  rw [chap_data, hr] at this
  exact this
theorem chap_place (h : Chap w g x tgt sig two) (hx : x.Ok w) (ht : TabW w) (h1 : x.args.length ≤ 1000) (h2 : x.from_.length ≤ 1000) {f r a b c : Int} (hr : placeE (chapP x.data tgt sig two) f r = (a, b, c)) :
    Calls Tryd.prog 19 #[chapV g, .int .i64 f, .int .i64 r] w fun e w' => e = .returned (.tuple #[.int .i64 a, .int .i64 b, .int .i64 c]) ∧ Below w.heap.size w w' := by
  have := pplace_any (h.prog hx) (chap_lim h1 h2) ht f r
  rw [chap_data, hr] at this
  exact this
theorem chap_reg (h : Chap w g x tgt sig two) (hx : x.Ok w) (ht : TabW w) (h1 : x.args.length ≤ 1000) (h2 : x.from_.length ≤ 1000) {f b i a c : Int} (hr : regE (chapP x.data tgt sig two) f b i = (a, c)) :
    Calls Tryd.prog 21 #[chapV g, .int .i64 f, .int .i64 b, .int .i64 i] w fun e w' => e = .returned (.tuple #[.int .i64 a, .int .i64 c]) ∧ Below w.heap.size w w' := by
  have := preg_any (h.prog hx) (chap_lim h1 h2) ht f b i
  rw [chap_data, hr] at this
  exact this
theorem chap_check (h : Chap w g x tgt sig two) (hx : x.Ok w) (ht : TabW w) (h1 : x.args.length ≤ 1000) (h2 : x.from_.length ≤ 1000) {r : Int} (hr : checkP (chapP x.data tgt sig two) = r) :
    Calls Tryd.prog 27 #[chapV g] w fun e w' => e = .returned (.int .i64 r) ∧ Below w.heap.size w w' :=
  ppcheck_is (h.prog hx) (chap_lim h1 h2) ht (by rw [chap_data]; exact hr)
end
theorem answersT {op : Nat} {b : Bool} (hop : op ≤ 255) (hb : hasT op 5 = b) (w : World) (ht : TabW w) : Calls Tryd.prog 9 #[.int .u8 op] w fun e w' => e = .returned (.bool b) ∧ Below w.heap.size w w' := by
  have := answers_any (Has.mk' op) hop w ht
  rwa [hb] at this
set_option maxRecDepth 100000 in
set_option maxHeartbeats 1600000 in
theorem alive_any (w : World) (ht : TabW w) : Calls Tryd.prog 26 #[] w fun e w' => e = .returned (.bool true) ∧ Below w.heap.size w w' := by
  have HT := Lib.hid ht
  clear ht
  go_enter Tryd.func26, Tryd.ntmps26
  go_wp2_with fail
  refine (chapter_any w).mono ?_
  rintro e w1 ⟨rfl, hc1, hb1⟩
  have HC := Lib.hid hc1
  have HB1 := Lib.hid hb1
  clear hc1 hb1
  go_wp2_with fail
  refine (chap_regs HC.out (chJ_ok _) (HT.out.on HB1.out) (by decide) (by decide) ch_regs).mono ?_
  rintro e w2 ⟨rfl, hb2⟩
  have HB2 := Lib.hid (HB1.out.trans (hb2.mono HB1.out.size))
  clear hb2 HC
  go_wp2_with fail
  refine (chapter_any w2).mono ?_
  rintro e w3 ⟨rfl, hc1, hb1⟩
  have HC := Lib.hid hc1
  have HB3 := Lib.hid (HB2.out.trans (hb1.mono HB2.out.size))
  clear hc1 hb1
  go_wp2_with fail
  refine (chap_place HC.out (chJ_ok _) (HT.out.on HB3.out) (by decide) (by decide) ch_place).mono ?_
  rintro e w4 ⟨rfl, hb2⟩
  have HB4 := Lib.hid (HB3.out.trans (hb2.mono HB3.out.size))
  clear hb2 HC
  go_wp2_with fail
  refine (chapter_any w4).mono ?_
  rintro e w5 ⟨rfl, hc1, hb1⟩
  have HC := Lib.hid hc1
  have HB5 := Lib.hid (HB4.out.trans (hb1.mono HB4.out.size))
  clear hc1 hb1
  go_wp2_with fail
  refine (chap_check HC.out (chJ_ok _) (HT.out.on HB5.out) (by decide) (by decide) ch_ok).mono ?_
  rintro e w6 ⟨rfl, hb2⟩
  have HB6 := Lib.hid (HB5.out.trans (hb2.mono HB5.out.size))
  clear hb2 HC
  go_wp2_with fail
  refine (answersT (op := 1) (b := true) (by decide) rfl _ (HT.out.on HB6.out)).mono ?_
  rintro e w7 ⟨rfl, hb2⟩
  have HB7 := Lib.hid (HB6.out.trans (hb2.mono HB6.out.size))
  clear hb2
  go_wp2_with fail
  refine (answersT (op := 17) (b := false) (by decide) rfl _ (HT.out.on HB7.out)).mono ?_
  rintro e w8 ⟨rfl, hb2⟩
  have HB8 := Lib.hid (HB7.out.trans (hb2.mono HB7.out.size))
  clear hb2
  go_wp2_with fail
  go_ret
  exact ⟨rfl, HB8.out⟩
end Go.Proofs.YtcbhmpkginebaaaDoor
