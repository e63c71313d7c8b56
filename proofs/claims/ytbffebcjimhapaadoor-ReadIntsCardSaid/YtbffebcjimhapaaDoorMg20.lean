/-
  The program's word for shapes: may a function be. The program's word for shapes: may a function be. The program's words for shapes: Check, asked. The program's words for shapes: Regs, Place, Reg. The reference's comparison of lines. The walk of the law LexTells. Bytes that no word may have. Plain law: the text of lines. Plain law of lines: two texts with a line feed between; what counts for nothing; what is joined is read as that, and the other way round. No program in sight. Plain law of lines: what is read may be joined. No program in sight. Read: the program of a text, or the error. The reference's Great: a program that is no more than the statements go through keeps the limits. The chapter's program, and what it may be turned to. The reference's word for whether two lists of instructions are the same. The reference's words for whether two lists of blocks, and two programs, are the same. What the statements of layer 7 ask first: texts that are read, texts that are not.
-/
import Derived.Test.YtbffebcjimhapaaDoorMg19
import Derived.Deep.RegionHeld3
import Derived.Laws.EntriesVeiled
import Derived.Outline
namespace Go.Proofs.YtbffebcjimhapaaDoor
set_option linter.unusedVariables false
set_option linter.unusedSimpArgs false
open Go.ChangeShapes Go.WideShapes Go.ChangeAt Go.RowKit

theorem pins_any {w : World} (x : InR) (hx : x.Ok w) (hal : x.args.length ≤ 1000) (hfl : x.from_.length ≤ 1000) (t f r b : Int) (ht : TabW w) {z : Bool} (hz : insB x.data t f r b = z) :
    Calls Tryd.prog 44 #[x.val, szV t f r b] w fun e w' => e = .returned (.bool z) ∧ Below w.heap.size w w' := by
  have hk := (has_facts x.op).1
  cases h0 : hasT x.op 0 with
  | true =>
    cases h1 : hasT x.op 1 with
    | true => exact pins_g1 x h0 h1 hx hal hfl t f r b ht hz
    | false =>
      cases h2 : hasT x.op 2 with
      | true => exact pins_g2 x h0 h1 h2 hx hal hfl t f r b ht hz
      | false => exact pins_g3 x h0 h1 h2 hx hal hfl t f r b ht hz
  | false =>
    have h1 : hasT x.op 1 = false := by
      cases h1 : hasT x.op 1 with
      | false => rfl
      | true =>
        rw [h0, h1] at hk
        simp [okHas] at hk
    cases h2 : hasT x.op 2 with
    | true => exact pins_g4 x h0 h1 h2 hx hal hfl t f r b ht hz
    | false => exact pins_g5 x h0 h1 h2 hx hal hfl t f r b ht hz
theorem enters_fun1 : Enters 43 := fun _ _ => by kernel_rfl
theorem enters_fun2 : Enters 46 := fun _ _ => by kernel_rfl
theorem enters_chk1 : Enters 24 := fun _ _ => by kernel_rfl
def szA (t f r b : Int) : Array Value := #[.int .i64 t, .int .i64 f, .int .i64 r, .int .i64 b]
set_option maxRecDepth 100000 in
theorem fun1_any {w : World} {g : Nat} (x : InR) (hx : x.Ok w) (hal : x.args.length ≤ 1000) (hfl : x.from_.length ≤ 1000) (t f r b : Int) (ht : TabW w) (hs : Blk w g 93 (szA t f r b)) {z : Bool} (hz : insB x.data t f r b = z) :
    Calls Tryd.prog 43 #[x.val, .pointer (some ⟨g, 0, none⟩)] w fun e w' => e = .returned (.bool (!z)) ∧ Below w.heap.size w w' := by
  have HC := Lib.hid (fun W (hb : Below w.heap.size w W) => pins_any x (hx.on hb) hal hfl t f r b (ht.on hb) hz)
  unfold InR.val szV at *
  unfold szA at hs
  obtain ⟨op, ty, a, bb, n, aa, ac, args, xa, xc, from_⟩ := x
  dsimp only at *
  have HB := Lib.hid ((Below.refl w.heap.size w).alloc (Nat.le_refl _) (.cells #[.int .u8 op, .int .i64 ty, .int .i64 a, .int .i64 bb, .int .i64 n, .slice aa args.length ac, .slice xa from_.length xc] 39))
  have s0 := hs.cells 0
  have s1 := hs.cells 1
  have s2 := hs.cells 2
  have s3 := hs.cells 3
  have hg := hs.lt
  clear hx ht hs hz hal hfl
  have q0 := (HB.out.cell (p := ⟨g, 0, none⟩) hg).trans s0
  have q1 := (HB.out.cell (p := ⟨g, 1, none⟩) hg).trans s1
  have q2 := (HB.out.cell (p := ⟨g, 2, none⟩) hg).trans s2
  have q3 := (HB.out.cell (p := ⟨g, 3, none⟩) hg).trans s3
  clear s0 s1 s2 s3
  go_enter Tryd.func43, Tryd.ntmps43
  go_wp2_with fail
  refine (HC.out _ HB.out).mono ?_
  rintro e w1 ⟨rfl, hb1⟩
  have HB1 := Lib.hid (HB.out.trans (hb1.mono HB.out.size))
  clear hb1
  go_wp2_with fail
  go_ret
  exact ⟨rfl, HB1.out⟩
set_option maxRecDepth 100000 in
theorem fun2_any {w : World} {go gs : Nat} (v : BlR) (hv : v.Ok w) (hal : ∀ x ∈ v.ins, x.args.length ≤ 1000) (hfl : ∀ x ∈ v.ins, x.from_.length ≤ 1000) (t f : Nat) (r : Int) (b : Nat) (ht : TabW w) (hs : Blk w gs 93 (szA t f r b))
    (ho : w.cell? ⟨go, 0, none⟩ = some (.func (.func 43) #[] #[.pointer (some ⟨gs, 0, none⟩)])) :
    Calls Tryd.prog 46 #[v.val, .pointer (some ⟨go, 0, none⟩), .pointer (some ⟨gs, 0, none⟩)] w fun e w' => e = .returned (.bool (!blkOk t f r b v)) ∧ Below w.heap.size w w' := by
  obtain ⟨z, hz⟩ : ∃ z, v.ins.all (insOk t f r b) = z := ⟨_, rfl⟩
  obtain ⟨y, hy⟩ : ∃ y, endB ⟨v.kind, v.a, v.to, v.els⟩ r b = y := ⟨_, rfl⟩
  have hbk : blkOk t f r b v = (z && y) := by unfold blkOk; rw [hz, hy]
  rw [hbk]
  have hany : v.ins.any (fun x => !insOk t f r b x) = !z := by rw [← hz, List.all_eq_not_any_not, Bool.not_not]
  have HC := Lib.hid (fun W (hb : Below w.heap.size w W) => containsI_any (hv.ins.on hb) 43 #[.pointer (some ⟨gs, 0, none⟩)] (fun x => !insOk t f r b x) ⟨enters_fun1, fun W' x hb' hx => fun1_any x (((hv.ins.on hb).ok x hx).on hb') (hal x hx) (hfl x hx) t f r b (ht.on (hb.trans (hb'.mono hb.size))) (hs.beneath (hb.trans (hb'.mono hb.size))) rfl⟩ hany)
  have HE := Lib.hid (fun W => pend_any ⟨v.kind, v.a, v.to, v.els⟩ t f r b W hy)
  have HS := Lib.hid hs
  have hgo : go < w.heap.size := World.block_lt_of_cell? w _ ho
  unfold BlR.val
  unfold endVal szV at HE
  obtain ⟨ia, ic, ins, kind, ea, et, el⟩ := v
  dsimp only at *
  have HN := Lib.hid (Blk.new w 36 #[.slice ia ins.length ic, .int .u8 kind, .int .i64 ea, .int .i64 et, .int .i64 el])
  have HB := Lib.hid ((Below.refl w.heap.size w).alloc (Nat.le_refl _) (.cells #[.slice ia ins.length ic, .int .u8 kind, .int .i64 ea, .int .i64 et, .int .i64 el] 36))
  have o0 := (HB.out.cell (p := ⟨go, 0, none⟩) hgo).trans ho
  clear hv ht hs hz hy hal hfl hany hbk ho hgo
  cases z with
  | false =>
    go_enter Tryd.func46, Tryd.ntmps46
    go_wp2_with fail
    refine (HC.out _ HB.out).mono ?_
    rintro e w1 ⟨rfl, hb1⟩
    have HB1 := Lib.hid (HB.out.trans (hb1.mono HB.out.size))
    clear hb1
    go_wp2_with fail
    go_ret
    exact ⟨rfl, HB1.out⟩
  | true =>
    go_enter Tryd.func46, Tryd.ntmps46
    go_wp2_with fail
    refine (HC.out _ HB.out).mono ?_
    rintro e w1 ⟨rfl, hb1⟩
    have HB1 := Lib.hid (HB.out.trans (hb1.mono HB.out.size))
    have n0 := (HN.out.beneath hb1).cells 0
    have n1 := (HN.out.beneath hb1).cells 1
    have n2 := (HN.out.beneath hb1).cells 2
    have n3 := (HN.out.beneath hb1).cells 3
    have n4 := (HN.out.beneath hb1).cells 4
    have s0 := (HS.out.beneath HB1.out).cells 0
    have s1 := (HS.out.beneath HB1.out).cells 1
    have s2 := (HS.out.beneath HB1.out).cells 2
    have s3 := (HS.out.beneath HB1.out).cells 3
    unfold szA at s0 s1 s2 s3
    clear hb1 o0
    go_wp2_with fail
    refine (HE.out _).mono ?_
    rintro e w2 ⟨rfl, hb2⟩
    have HB2 := Lib.hid (HB1.out.trans (hb2.mono HB1.out.size))
    clear hb2
    go_wp2_with fail
    go_ret
    exact ⟨rfl, HB2.out⟩
end Go.Proofs.YtbffebcjimhapaaDoor
namespace Go.Proofs.YtbffebcjimhapaaDoor
set_option linter.unusedVariables false
set_option linter.unusedSimpArgs false
open Go.ChangeShapes Go.WideShapes Go.ChangeAt Go.RowKit

theorem BoxF.put {w0 w : World} {g1 g2 g i : Nat} {p x : Array Value} {u : Value} (h : BoxF w0 w g1 g2 p x) (h1 : g ≠ g1) (h2 : g ≠ g2) (h0 : w0.heap.size ≤ g) : BoxF w0 (w.setCell ⟨g, i, none⟩ u) g1 g2 p x :=
  ⟨h.p.far (fun e => h1 e.symm) u, h.x.far (fun e => h2 e.symm) u, h.below.setCell h0 u⟩
set_option maxRecDepth 100000 in
set_option maxHeartbeats 1600000 in
theorem pfunction_any {w : World} {p : PrR} (h : ProgIn w p) (hpp : ∀ t ∈ p.types, t.parts.length ≤ 1000000) (ht : TabW w) (f : FuR) (hf : f.Ok w) (hfl : FuLim f) {z : Bool} (hz : funB p.data f.data = z) :
    Calls Tryd.prog 25 #[p.val, f.val] w fun e w' => e = .returned (.bool z) ∧ Below w.heap.size w w' := by
  have hpl := h.types.len
  have hbl := hfl.blocks
  have hfc := h.funs.hdr.cle
  have HPP := Lib.hid hpp
  clear hpp
  have HP := Lib.hid h
  have HMY := Lib.hid (fun W (hb : Below w.heap.size w W) => pmany_any f (hf.blocks.on hb) hfl.blocks hfl.ins)
  obtain ⟨q, hq⟩ : ∃ b, headB p.data f.data = b := ⟨_, rfl⟩
  obtain ⟨rg, hrg⟩ : ∃ b : Nat, regsP p.data f.data = b := ⟨_, rfl⟩
  obtain ⟨mn, hmn⟩ : ∃ b : Nat, manyB (f.blocks.map BlR.data) = b := ⟨_, rfl⟩
  have hsp := fun_split p f
  rw [hq, hrg, hz] at hsp
  rw [hmn] at HMY
  have hrg2 : f.sig < p.types.length → 0 ≤ f.sig → (p.types.getD f.sig.toNat default).parts.length + mn = rg := fun a b => by
    rw [← hrg, ← hmn]
    unfold regsP parsP
    have : p.data.types.getD f.data.sig.toNat default = (p.types.getD f.sig.toNat default).data := tbl_at (show f.sig.toNat < _ by omega)
    rw [this]
    rfl
  have hq2 : q = (inB f.sig p.types.length && (decide ((p.data.types.getD f.sig.toNat default).kind = 3) && (decide (1 ≤ f.blocks.length ∧ f.blocks.length ≤ 16) && decide (mn ≤ 128)))) := by
    rw [← hq, ← hmn]
    unfold headB
    rw [show p.data.types.length = p.types.length from tbl_len _, show f.data.blocks.length = f.blocks.length from List.length_map ..]
    rfl
  have hkd : f.sig < p.types.length → 0 ≤ f.sig → p.data.types.getD f.sig.toNat default = (p.types.getD f.sig.toNat default).data := fun a b => tbl_at (by omega)
  have hall : f.blocks.any (fun b => !blkOk p.types.length p.funs.length (rg : Nat) f.blocks.length b) = !(f.blocks.all (blkOk p.types.length p.funs.length (rg : Nat) f.blocks.length)) := by
    rw [List.all_eq_not_any_not, Bool.not_not]
  obtain ⟨ab, hab⟩ : ∃ b, f.blocks.all (blkOk p.types.length p.funs.length (rg : Nat) f.blocks.length) = b := ⟨_, rfl⟩
  rw [hab] at hall hsp
  have HCB := Lib.hid (fun W (hb : Below w.heap.size w W) (go gs : Nat) (hs : Blk W gs 93 (szA p.types.length p.funs.length rg f.blocks.length)) (ho : W.cell? ⟨go, 0, none⟩ = some (.func (.func 43) #[] #[.pointer (some ⟨gs, 0, none⟩)])) =>
    containsB_any (hf.blocks.on hb) 46 #[.pointer (some ⟨go, 0, none⟩), .pointer (some ⟨gs, 0, none⟩)] (fun b => !blkOk p.types.length p.funs.length (rg : Nat) f.blocks.length b)
      ⟨enters_fun2, fun W' v hb' hv => fun2_any v (((hf.blocks.on hb).ok v hv).on hb') (hfl.args v hv) (hfl.froms v hv) p.types.length p.funs.length rg f.blocks.length (ht.on (hb.trans (hb'.mono hb.size))) (hs.beneath hb') ((hb'.cell (p := ⟨go, 0, none⟩) (World.block_lt_of_cell? W _ ho)).trans ho)⟩ hall)
  have HRG := Lib.hid hrg2
  have HQ := Lib.hid hq2
  have HKD := Lib.hid hkd
  have HR := Lib.hid hsp
  unfold PrR.val FuR.val at *
  clear hsp hrg hq hmn hrg2 hq2 hkd hf h hfl hab hall hz ht
  obtain ⟨ta, tc, types, fa, fc, funs⟩ := p
  obtain ⟨sig, ba, bc, blocks⟩ := f
  dsimp only at *
  have HW1 := Lib.hid (show BoxF w ((w.alloc (.cells #[.slice ta types.length tc, .slice fa funs.length fc] 25)).alloc (.cells #[.int .i64 sig, .slice ba blocks.length bc] 31)) w.heap.size (w.heap.size + 1) #[.slice ta types.length tc, .slice fa funs.length fc] #[.int .i64 sig, .slice ba blocks.length bc] from
    ⟨(Blk.new w _ _).beneath ((Below.refl _ _).alloc (Nat.le_refl _) _), heap_at _ _ _ (World.size_alloc _ _), ((Below.refl _ _).alloc (Nat.le_refl _) _).alloc (by rw [World.size_alloc]; omega) _⟩)
  have HTR := Lib.hid (fun (k : Nat) (hk : k < types.length) => HP.out.types.rows.elem hk)
  go_enter Tryd.func25, Tryd.ntmps25
  go_upto_region 1 with fail
  go_cut [36] (fun c wx => c = .bool (!q) ∧ Hid (BoxF w wx w.heap.size (w.heap.size + 1) #[.slice ta types.length tc, .slice fa funs.length fc] #[.int .i64 sig, .slice ba blocks.length bc]))
  case first =>
    have x0 := HW1.out.x.cells 0; have x1 := HW1.out.x.cells 1; have p0 := HW1.out.p.cells 0; have p1 := HW1.out.p.cells 1
    by_cases s01 : 0 ≤ sig ∧ sig < types.length
    · obtain ⟨s0, s1⟩ := s01
      have HI : Hid (inB sig types.length = true) := Lib.hid (inB_iff.2 ⟨s0, s1⟩)
      obtain ⟨k, rfl⟩ : ∃ k : Nat, sig = k := ⟨sig.toNat, by omega⟩
      have hk : k < types.length := by omega
      obtain ⟨b, off, rfl, hb, d0, _, _, _⟩ := (HTR.out k hk).at_
      have e0 := (HW1.out.below.cell (p := ⟨b, off + k * 4, none⟩) hb).trans d0
      clear d0
      have HKK : Hid (q = (decide ((types.getD k default).kind = 3) && (decide (1 ≤ blocks.length ∧ blocks.length ≤ 16) && decide (mn ≤ 128)))) := Lib.hid (by
        rw [HQ.out, inB_iff.2 ⟨s0, s1⟩, HKD.out s1 s0]
        rfl)
      obtain ⟨kd, hkd⟩ : ∃ kd, (types.getD k default).kind = kd := ⟨_, rfl⟩
      rw [hkd] at e0 HKK
      clear hkd HKD HTR
      by_cases k3 : kd = 3
      · subst k3
        obtain ⟨bz, hbz⟩ : ∃ v, inB ((blocks.length : Int) - 1) 16 = v := ⟨_, rfl⟩
        have hbz2 : decide (1 ≤ blocks.length ∧ blocks.length ≤ 16) = bz := by
          rw [← hbz, Bool.eq_iff_iff, inB_iff, decide_eq_true_iff]
          omega
        have HBZ := Lib.hid hbz
        have hblz : (blocks.length : Int) ≤ 20000 := by omega
        rw [hbz2] at HKK
        clear hbz hbz2
        go_wp2_with fail
        refine (pbelow_is HI.out _).mono ?_
        rintro e w9 ⟨rfl, rfl⟩
        go_wp2_with fail
        refine (pbelow_is HBZ.out _).mono ?_
        rintro e w9 ⟨rfl, rfl⟩
        cases bz with
        | false =>
          have HZ : Hid (q = false) := Lib.hid (by rw [HKK.out]; simp)
          go_wp2_with fail
          go_meet
          exact ⟨by rw [HZ.out]; rfl, HW1⟩
        | true =>
          have HK2 : Hid (q = decide (mn ≤ 128)) := Lib.hid (by rw [HKK.out]; simp)
          go_wp2_with fail
          refine (HMY.out _ HW1.out.below).mono ?_
          rintro e w2 ⟨rfl, hb2⟩
          have HW2 := Lib.hid (HW1.out.on hb2)
          clear hb2 x0 x1 p0 p1 e0
          by_cases m0 : mn ≤ 128
          · have m0z : ¬ (128 : Int) < mn := by omega
            have HZ : Hid (q = true) := Lib.hid (by rw [HK2.out]; exact decide_eq_true m0)
            clear m0
            go_wp2_with fail
            go_meet
            exact ⟨by rw [HZ.out]; first | rfl | (congr 1; simp; omega), HW2⟩
          · have m0z : (128 : Int) < mn := by omega
            have HZ : Hid (q = false) := Lib.hid (by rw [HK2.out]; exact decide_eq_false m0)
            clear m0
            go_wp2_with fail
            go_meet
            exact ⟨by rw [HZ.out]; first | rfl | (congr 1; simp; omega), HW2⟩
      · have k3z : ((kd : Int) != 3) = true := bne_iff_ne.2 (by omega)
        have HZ : Hid (q = false) := Lib.hid (by rw [HKK.out, decide_eq_false k3]; rfl)
        clear k3
        go_wp2_with fail
        refine (pbelow_is HI.out _).mono ?_
        rintro e w9 ⟨rfl, rfl⟩
        go_wp2_with fail
        go_meet
        exact ⟨by rw [HZ.out]; rfl, HW1⟩
    · have HI : Hid (inB sig types.length = false) := Lib.hid (inB_not.2 (by omega))
      have HZ : Hid (q = false) := Lib.hid (by rw [HQ.out, HI.out]; rfl)
      clear s01
      go_wp2_with fail
      refine (pbelow_is HI.out _).mono ?_
      rintro e w9 ⟨rfl, rfl⟩
      go_wp2_with fail
      go_meet
      exact ⟨by rw [HZ.out]; rfl, HW1⟩
  case rest =>
    clear HW1
    obtain ⟨rfl, HW1⟩ := hcut
    cases q with
    | false =>
      have HZ : Hid (z = false) := Lib.hid (by rw [HR.out]; rfl)
      go_wp2_with fail
      go_ret
      exact ⟨ret_bool HZ.out.symm, HW1.out.below⟩
    | true =>
      have HZ : Hid (z = ab) := Lib.hid (by rw [HR.out]; rfl)
      rw [Bool.not_true]
      have hq3 := HQ.out.symm
      rw [Bool.and_eq_true, inB_iff, Bool.and_eq_true, Bool.and_eq_true, decide_eq_true_eq, decide_eq_true_eq, decide_eq_true_eq] at hq3
      obtain ⟨⟨s0, s1⟩, k3, ⟨b0, b1⟩, m0⟩ := hq3
      have hrp := HRG.out s1 s0
      obtain ⟨k, rfl⟩ : ∃ k : Nat, sig = k := ⟨sig.toNat, by omega⟩
      have hk : k < types.length := by omega
      obtain ⟨b, off, rfl, hb, _, _, _, d3⟩ := (HTR.out k hk).at_
      rw [Int.toNat_natCast] at hrp
      obtain ⟨r, hr⟩ : ∃ r, types.getD k default = r := ⟨_, rfl⟩
      rw [hr] at d3 hrp
      have hprl : r.parts.length ≤ 1000000 := by rw [← hr]; exact HPP.out _ (mem_getD (d := default) hk)
      obtain ⟨pr, hpr⟩ : ∃ n, r.parts.length = n := ⟨_, rfl⟩
      rw [hpr] at d3 hrp hprl
      have e3 := (HW1.out.below.cell (p := ⟨b, off + k * 4 + 3, none⟩) hb).trans d3
      have HE3 := Lib.hid (And.intro hb d3)
      clear hr hpr k3 HKD HTR HRG HQ d3 HPP
      have b1z : (blocks.length : Int) ≤ 16 := by omega
      have prz : (pr : Int) ≤ 1000000 := by omega
      have mnz : (mn : Int) ≤ 128 := by omega
      have rgw : IntKind.i64.wrap (rg : Int) = rg := IntWalk.i64_in _ (by omega)
      have rgz : (pr : Int) + (mn : Int) = (rg : Int) := by omega
      clear hrp m0 hprl b0 b1
      have x0 := HW1.out.x.cells 0; have x1 := HW1.out.x.cells 1; have p0 := HW1.out.p.cells 0; have p1 := HW1.out.p.cells 1
      go_upto_region 3 with fail
      go_cut [5] (fun v wx => ∃ gs : Nat, v = .pointer (some ⟨gs, 0, none⟩) ∧ Hid (Blk wx gs 93 (szA types.length funs.length rg blocks.length) ∧ BoxF w wx w.heap.size (w.heap.size + 1) #[.slice (some ⟨b, off, none⟩) types.length tc, .slice fa funs.length fc] #[.int .i64 k, .slice ba blocks.length bc]))
      case first =>
        have n0' := World.new_ne _ _ p0
        have n2' := World.new_ne _ _ x0
        have n4' := World.new_ne _ _ e3
        go_region_held3 (fun w' => w'.cell? ⟨w.heap.size, 0, none⟩ = some (.slice (some ⟨b, off, none⟩) types.length tc) ∧ w'.cell? ⟨w.heap.size, 1, none⟩ = some (.slice fa funs.length fc) ∧ w'.cell? ⟨w.heap.size + 1, 0, none⟩ = some (.int .i64 k) ∧ w'.cell? ⟨w.heap.size + 1, 1, none⟩ = some (.slice ba blocks.length bc) ∧ w'.cell? ⟨b, off + k * 4 + 3, none⟩ = some (.slice r.pa pr r.pc)) (go_keep)
          (first
            | (go_at_call 42
               refine (HMY.out _ HW1.out.below.drew).mono ?_
               rintro e w2 ⟨rfl, hb2⟩
               have HW2 := Lib.hid (HW1.out.on ((Below.refl _ _).drew.trans hb2))
               have m0 := HW2.out.p.cells 0
               have m1 := HW2.out.p.cells 1
               have m2 := HW2.out.x.cells 0
               have m3 := HW2.out.x.cells 1
               have m4 := (HW2.out.below.cell (p := ⟨b, off + k * 4 + 3, none⟩) HE3.out.1).trans HE3.out.2
               have n0 := World.new_ne _ _ m0
               have n2 := World.new_ne _ _ m2
               have n4 := World.new_ne _ _ m4
               clear hb2)
            | (go_at_call 42
               refine (HMY.out _ (HW1.out.below.drew.alloc HW1.out.below.size (.cells #[.int .i64 0, .int .i64 0, .int .i64 0, .int .i64 0] 93))).mono ?_
               rintro e w2 ⟨rfl, hb2⟩
               have HW2 := Lib.hid (HW1.out.on (((Below.refl _ _).drew.alloc (Nat.le_refl _) _).trans (hb2.mono (by simp))))
               have hnb := (Blk.new wc.drew 93 #[.int .i64 0, .int .i64 0, .int .i64 0, .int .i64 0]).beneath hb2
               have HNB := Lib.hid hnb
               have z0 : w2.cell? ⟨wc.heap.size, 0, none⟩ = _ := hnb.cells 0
               have z1 : w2.cell? ⟨wc.heap.size, 1, none⟩ = _ := hnb.cells 1
               have z2 : w2.cell? ⟨wc.heap.size, 2, none⟩ = _ := hnb.cells 2
               have z3 : w2.cell? ⟨wc.heap.size, 3, none⟩ = _ := hnb.cells 3
               have y0 : w2.frozen? ⟨wc.heap.size, 0, none⟩ = false := hnb.free 0
               have y1 : w2.frozen? ⟨wc.heap.size, 1, none⟩ = false := hnb.free 1
               have y2 : w2.frozen? ⟨wc.heap.size, 2, none⟩ = false := hnb.free 2
               have y3 : w2.frozen? ⟨wc.heap.size, 3, none⟩ = false := hnb.free 3
               have m0 := HW2.out.p.cells 0
               have m1 := HW2.out.p.cells 1
               have m2 := HW2.out.x.cells 0
               have m3 := HW2.out.x.cells 1
               have m4 := (HW2.out.below.cell (p := ⟨b, off + k * 4 + 3, none⟩) HE3.out.1).trans HE3.out.2
               have n0 := World.new_ne _ _ m0
               have n2 := World.new_ne _ _ m2
               have n4 := World.new_ne _ _ m4
               clear hb2 hnb))
        · go_wp2_with fail
          go_meet
          exact ⟨_, rfl, Lib.hid ⟨Blk.new _ _ _, HW2.out.on ((Below.refl _ _).alloc (Nat.le_refl _) _)⟩⟩
        · have hA : Blk ((((w2.setCell ⟨wc.heap.size, 0, none⟩ (.int .i64 types.length)).setCell ⟨wc.heap.size, 1, none⟩ (.int .i64 funs.length)).setCell ⟨wc.heap.size, 2, none⟩ (.int .i64 rg)).setCell ⟨wc.heap.size, 3, none⟩ (.int .i64 blocks.length)) wc.heap.size 93 (szA types.length funs.length rg blocks.length) :=
            (((HNB.out.put 0 _).put 1 _).put 2 _).put 3 _
          have hle := HW1.out.below.size
          have HH := Lib.hid (And.intro hA ((((HW2.out.put (i := 0) (u := .int .i64 types.length) n0' n2' hle).put (i := 1) (u := .int .i64 funs.length) n0' n2' hle).put (i := 2) (u := .int .i64 rg) n0' n2' hle).put (i := 3) (u := .int .i64 blocks.length) n0' n2' hle))
          clear hA hle
          go_wp2_with fail
          go_meet
          exact ⟨_, rfl, HH⟩
      case rest =>
        clear HW1
        obtain ⟨gs, rfl, HHS⟩ := hcut
        have HS := Lib.hid HHS.out.1
        have HW1 := Lib.hid HHS.out.2
        clear HHS x0 x1 p0 p1 e3
        have HB2 := Lib.hid ((Below.refl wc.heap.size wc).alloc (Nat.le_refl _) (.cells #[.func (.func 43) #[] #[.pointer (some ⟨gs, 0, none⟩)]] 95))
        have HW2 := Lib.hid (HW1.out.on HB2.out)
        have HO := Lib.hid ((Blk.new wc 95 #[.func (.func 43) #[] #[.pointer (some ⟨gs, 0, none⟩)]]).cells 0)
        have x0 := HW2.out.x.cells 0; have x1 := HW2.out.x.cells 1; have p0 := HW2.out.p.cells 0; have p1 := HW2.out.p.cells 1
        go_wp2_with fail
        refine (HCB.out _ HW2.out.below wc.heap.size gs (HS.out.beneath HB2.out) HO.out).mono ?_
        rintro e w2 ⟨rfl, hb2⟩
        have HW3 := Lib.hid (HW2.out.on hb2)
        clear hb2
        go_wp2_with fail
        go_ret
        exact ⟨ret_bool HZ.out.symm, HW3.out.below⟩
end Go.Proofs.YtbffebcjimhapaaDoor
namespace Go.Proofs.YtbffebcjimhapaaDoor
set_option linter.unusedVariables false
set_option linter.unusedSimpArgs false
open Go.ChangeShapes Go.WideShapes Go.ChangeAt Go.RowKit

theorem PrLim.parts6 {p : PrR} (h : PrLim p) : ∀ t ∈ p.types, t.parts.length ≤ 1000000 := fun t ht => Nat.le_trans (h.parts t ht) (by omega)
set_option maxRecDepth 100000 in
theorem chk1_any {w : World} {p : PrR} (h : ProgIn w p) (hl : PrLim p) (ht : TabW w) {g : Nat} (hg : Blk w g 25 #[.slice p.ta p.types.length p.tc, .slice p.fa p.funs.length p.fc]) (f : FuR) (hf : f.Ok w) (hfl : FuLim f) {z : Bool} (hz : funB p.data f.data = z) :
    Calls Tryd.prog 24 #[f.val, .pointer (some ⟨g, 0, none⟩)] w fun e w' => e = .returned (.bool (!z)) ∧ Below w.heap.size w w' := by
  have HC := Lib.hid (fun W (hb : Below w.heap.size w W) => pfunction_any (h.on hb) hl.parts6 (ht.on hb) f (hf.on hb) hfl hz)
  unfold PrR.val FuR.val at *
  obtain ⟨ta, tc, types, fa, fc, funs⟩ := p
  obtain ⟨sig, ba, bc, blocks⟩ := f
  dsimp only at *
  have HB := Lib.hid ((Below.refl w.heap.size w).alloc (Nat.le_refl _) (.cells #[.int .i64 sig, .slice ba blocks.length bc] 31))
  have p0 := (hg.beneath HB.out).cells 0
  have p1 := (hg.beneath HB.out).cells 1
  clear h hl ht hg hf hfl hz
  go_enter Tryd.func24, Tryd.ntmps24
  go_wp2_with fail
  refine (HC.out _ HB.out).mono ?_
  rintro e w1 ⟨rfl, hb1⟩
  have HB1 := Lib.hid (HB.out.trans (hb1.mono HB.out.size))
  clear hb1
  go_wp2_with fail
  go_ret
  exact ⟨rfl, HB1.out⟩
theorem tchk_is {w : World} {A : Option Addr} {c : Nat} {rows : List TyR} (h : TabFew w A c rows) {e0 : Int} (he : checkT (tbl rows) = e0) : Calls Tryd.prog 21 #[.slice A rows.length c] w fun e w' => e = .returned (.int .i64 e0) ∧ Below w.heap.size w w' := he ▸ pcheck_any h
set_option maxRecDepth 100000 in
set_option maxHeartbeats 1600000 in
theorem ppcheck_is {w : World} {p : PrR} (h : ProgIn w p) (hl : PrLim p) (ht : TabW w) {r : Int} (hr : checkP p.data = r) :
    Calls Tryd.prog 12 #[p.val] w fun e w' => e = .returned (.int .i64 r) ∧ Below w.heap.size w w' := by
  have hfl := hl.many
  obtain ⟨e0, he⟩ : ∃ e, checkT (tbl p.types) = e := ⟨_, rfl⟩
  obtain ⟨al, hal⟩ : ∃ e, p.funs.all (funOk p) = e := ⟨_, rfl⟩
  have hs := check_split p he
  rw [hal, hr] at hs
  have hany : p.funs.any (fun f => !funOk p f) = !al := by rw [← hal, List.all_eq_not_any_not, Bool.not_not]
  have HTC := Lib.hid (fun W (hb : Below w.heap.size w W) => tchk_is (TabFew.on ⟨h.types, hl.parts⟩ hb) he)
  have HCF := Lib.hid (fun W (hb : Below w.heap.size w W) (g : Nat) (hg : Blk W g 25 #[.slice p.ta p.types.length p.tc, .slice p.fa p.funs.length p.fc]) =>
    containsF_any (h.funs.on hb) 24 #[.pointer (some ⟨g, 0, none⟩)] (fun f => !funOk p f) ⟨enters_chk1, fun W' f hb' hf => chk1_any (h.on (hb.trans (hb'.mono hb.size))) hl (ht.on (hb.trans (hb'.mono hb.size))) (hg.beneath hb') f (((h.funs.on hb).ok f hf).on hb') (hl.funs f hf) rfl⟩ hany)
  have HR := Lib.hid hs
  unfold PrR.val at *
  clear h hl ht hr he hal hs hany
  obtain ⟨ta, tc, types, fa, fc, funs⟩ := p
  dsimp only at *
  have HW1 := Lib.hid (BoxP.new w #[.slice ta types.length tc, .slice fa funs.length fc])
  have x0 := HW1.out.p.cells 0
  have x1 := HW1.out.p.cells 1
  have hflz : (funs.length : Int) ≤ 20000 := by omega
  by_cases z0 : e0 = 0
  · subst z0
    have HR2 : Hid (r = if (1 ≤ funs.length ∧ funs.length ≤ 8) ∧ al = true then 0 else 60) := Lib.hid (by rw [HR.out]; exact if_neg (by decide))
    obtain ⟨bz, hbz⟩ : ∃ v, inB ((funs.length : Int) - 1) 8 = v := ⟨_, rfl⟩
    have hbz2 : bz = true ↔ 1 ≤ funs.length ∧ funs.length ≤ 8 := by
      rw [← hbz, inB_iff]
      omega
    have HBZ := Lib.hid hbz
    have HBI := Lib.hid hbz2
    clear HR hbz hbz2 hfl
    go_enter Tryd.func12, Tryd.ntmps12
    go_wp2_with fail
    refine (HTC.out _ HW1.out.below).mono ?_
    rintro e w2 ⟨rfl, hb2⟩
    have HW2 := Lib.hid (HW1.out.on hb2)
    clear hb2 x0 x1
    have x0 := HW2.out.p.cells 0
    have x1 := HW2.out.p.cells 1
    go_wp2_with fail
    refine (pbelow_is HBZ.out _).mono ?_
    rintro e w9 ⟨rfl, rfl⟩
    cases bz with
    | false =>
      have HZ : Hid (r = 60) := Lib.hid (by rw [HR2.out, if_neg]; rintro ⟨h1, _⟩; exact absurd (HBI.out.2 h1) (by decide))
      go_wp2_with fail
      go_ret
      exact ⟨ret_num HZ.out.symm, HW2.out.below⟩
    | true =>
      have HI2 := Lib.hid (HBI.out.1 rfl)
      cases al with
      | false =>
        have HZ : Hid (r = 60) := Lib.hid (by rw [HR2.out, if_neg]; rintro ⟨_, h2⟩; exact absurd h2 (by decide))
        go_wp2_with fail
        refine (HCF.out _ HW2.out.below w.heap.size HW2.out.p).mono ?_
        rintro e w3 ⟨rfl, hb3⟩
        have HW3 := Lib.hid (HW2.out.on hb3)
        clear hb3
        go_wp2_with fail
        go_ret
        exact ⟨ret_num HZ.out.symm, HW3.out.below⟩
      | true =>
        have HZ : Hid (r = 0) := Lib.hid (by rw [HR2.out, if_pos ⟨HI2.out, rfl⟩])
        go_wp2_with fail
        refine (HCF.out _ HW2.out.below w.heap.size HW2.out.p).mono ?_
        rintro e w3 ⟨rfl, hb3⟩
        have HW3 := Lib.hid (HW2.out.on hb3)
        clear hb3
        go_wp2_with fail
        go_ret
        exact ⟨ret_num HZ.out.symm, HW3.out.below⟩
  · have HZ : Hid (r = e0) := Lib.hid (by rw [HR.out, if_pos z0])
    have ez : (e0 != 0) = true := bne_iff_ne.2 z0
    clear z0 HR
    go_enter Tryd.func12, Tryd.ntmps12
    go_wp2_with fail
    refine (HTC.out _ HW1.out.below).mono ?_
    rintro e w2 ⟨rfl, hb2⟩
    have HW2 := Lib.hid (HW1.out.on hb2)
    clear hb2
    go_wp2_with fail
    go_ret
    exact ⟨ret_num HZ.out.symm, HW2.out.below⟩
/-- How many parameters a function has, if it may be asked. -/
def parsE (p : PProg) (f : Int) : Int × Int := if askedP p f ≠ 0 then (0, askedP p f) else (parsP p (funAt p f), 0)
end Go.Proofs.YtbffebcjimhapaaDoor
namespace Go.Proofs.YtbffebcjimhapaaDoor
set_option linter.unusedVariables false
set_option linter.unusedSimpArgs false
open Go.ChangeShapes Go.WideShapes Go.ChangeAt Go.RowKit

theorem pars_bad {p : PProg} {f e0 : Int} (h : askedP p f = e0) (z : e0 ≠ 0) : parsE p f = (0, e0) := by unfold parsE; rw [h]; exact if_pos z
theorem pars_good {p : PrR} {k n : Nat} {f : FuR} (h : askedP p.data k = 0) (hg : FunGood p k f) (hn : parsP p.data f.data = n) : parsE p.data k = ((n : Int), 0) := by unfold parsE; rw [h, fun_at hg, hn]; rfl
/-- Where a function that may be lies. -/
theorem fun_spot {w : World} {p : PrR} (h : ProgIn w p) {k : Nat} {f : FuR} (hg : FunGood p k f) :
    ∃ b off, p.fa = some ⟨b, off, none⟩ ∧ b < w.heap.size ∧ w.cell? ⟨b, off + k * 2, none⟩ = some (.int .i64 f.sig) ∧ w.cell? ⟨b, off + k * 2 + 1, none⟩ = some (.slice f.ba f.blocks.length f.bc) ∧ f.Ok w ∧ f ∈ p.funs ∧ (0 : Int) ≤ (k : Int) ∧ (k : Int) < (p.funs.length : Int) := by
  obtain ⟨b, off, f', ha, hb, ⟨c0, c1⟩, hf, HEF⟩ := h.funs.elem hg.lt
  obtain rfl : f' = f := HEF.out.symm.trans hg.get
  have := hg.lt
  exact ⟨b, off, ha, hb, c0, c1, hf, by rw [← hg.get]; exact mem_getD hg.lt, by omega, by omega⟩
/-- A place is looked for from a block on. -/
structure Seek (bs : List PBlk) (r0 b a : Nat) : Prop where
  same : whereB (bs.drop b) b a = whereB bs 0 r0
  in_ : a < manyB (bs.drop b)
theorem Seek.zero {bs : List PBlk} {r : Nat} (h : r < manyB bs) : Seek bs r 0 r := ⟨rfl, h⟩
theorem Seek.lt {bs : List PBlk} {r b a : Nat} (h : Seek bs r b a) : b < bs.length := by
  have := h.in_
  rcases Nat.lt_or_ge b bs.length with h' | h'
  · exact h'
  · rw [List.drop_eq_nil_of_le h'] at this
    exact absurd this (Nat.not_lt_zero _)
theorem drop_cons' {α : Type} [Inhabited α] {l : List α} {k : Nat} (h : k < l.length) : l.drop k = l.getD k default :: l.drop (k + 1) := by
  rw [List.drop_eq_getElem_cons h, getD_lt l h]
theorem Seek.done {bs : List PBlk} {r b a : Nat} (h : Seek bs r b a) (ha : a < (bs.getD b default).ins.length) : whereB bs 0 r = (b, a) := by
  rw [← h.same, drop_cons' h.lt]
  exact if_pos ha
theorem Seek.next {bs : List PBlk} {r b a : Nat} (h : Seek bs r b a) (ha : (bs.getD b default).ins.length ≤ a) : Seek bs r (b + 1) (a - (bs.getD b default).ins.length) := by
  have hs := h.same
  have hi := h.in_
  rw [drop_cons' h.lt] at hs hi
  have hs2 : whereB (bs.drop (b + 1)) (b + 1) (a - (bs.getD b default).ins.length) = whereB bs 0 r := by
    rw [← hs]
    exact (if_neg (by omega)).symm
  refine ⟨hs2, ?_⟩
  have : manyB (bs.getD b default :: bs.drop (b + 1)) = (bs.getD b default).ins.length + manyB (bs.drop (b + 1)) := by
    unfold manyB
    rw [List.map_cons, List.sum_cons]
  omega
theorem BlksAt.func {w : World} {f : FuR} (h : f.Ok w) {n : Nat} (hn : n ≤ f.blocks.length) : BlksAt w f.ba f.bc (f.blocks.take n) := h.blocks.take hn
end Go.Proofs.YtbffebcjimhapaaDoor
namespace Go.Proofs.YtbffebcjimhapaaDoor
set_option linter.unusedVariables false
set_option linter.unusedSimpArgs false
open Go.ChangeShapes Go.WideShapes Go.ChangeAt Go.RowKit

theorem take_next {α : Type} {d : α} (l : List α) {k : Nat} (h : k < l.length) : l.take (k + 1) = l.take k ++ [l.getD k d] := by
  rw [List.take_add_one, List.getElem?_eq_getElem h, List.getD_eq_getElem?_getD, List.getElem?_eq_getElem h]
  rfl
theorem take_eq_next {α : Type} {d : α} {xs ys : List α} {k : Nat} (h : xs.take k = ys.take k) (h1 : k < xs.length) (h2 : k < ys.length) (e : xs.getD k d = ys.getD k d) : xs.take (k + 1) = ys.take (k + 1) := by
  rw [take_next (d := d) xs h1, take_next (d := d) ys h2, h, e]
theorem ne_at {α : Type} {d : α} {xs ys : List α} {k : Nat} (e : xs.getD k d ≠ ys.getD k d) : xs ≠ ys := fun h => e (by rw [h])
/-- What lines tell. -/
def lns (rows : List LnR) : List (List ByteArray) := rows.map LnR.xs
theorem lns_len (rows : List LnR) : (lns rows).length = rows.length := List.length_map _
theorem lns_at {rows : List LnR} {k : Nat} (h : k < rows.length) : (lns rows).getD k [] = (rows.getD k default).xs := by
  unfold lns
  rw [List.getD_eq_getElem?_getD, List.getElem?_map, List.getD_eq_getElem?_getD, List.getElem?_eq_getElem h]
  rfl
end Go.Proofs.YtbffebcjimhapaaDoor
namespace Go.Proofs.YtbffebcjimhapaaDoor
set_option linter.unusedVariables false
set_option linter.unusedSimpArgs false
open Go.ChangeShapes Go.WideShapes Go.ChangeAt Go.RowKit

def errL (o : Option (List (List Bs))) : Int := if o.isSome then 0 else 4
/-- Lines' answer in one form. -/
theorem LinesOut.form {o : Option (List (List Bs))} {w w' : World} {e : Ending} (h : LinesOut o w e w') : ∃ A c rows, e = .returned (.tuple #[.slice A rows.length c, .int .i64 (errL o)]) ∧ OwnLines w' w.heap.size (.slice A rows.length c) rows ∧ Hid (rows.map LnR.data = o.getD []) ∧ Below w.heap.size w w' := by
  cases o with
  | none =>
    obtain ⟨rfl, hb⟩ := h
    exact ⟨none, 0, [], rfl, OwnLines.nil _ _, Lib.hid rfl, hb⟩
  | some m =>
    obtain ⟨v, rows, rfl, ho, hm, hb⟩ := h
    obtain ⟨A, c, rfl, _⟩ := ho.full
    exact ⟨A, c, rows, rfl, ho, Lib.hid hm, hb⟩
theorem lns_data {rows rows' : List LnR} (h : rows.map LnR.data = rows'.map LnR.data) : lns rows = lns rows' := by
  have h1 : ∀ l : List LnR, l.map LnR.data = (lns l).map (List.map toL) := fun l => by unfold lns; rw [List.map_map]; rfl
  rw [h1, h1] at h
  exact (List.map_inj_right fun a b h2 => (List.map_inj_right fun a b h3 => toL_inj h3).1 h2).1 h
theorem OwnLines.at_ {w : World} {lo : Nat} {A : Option Addr} {c : Nat} {rows : List LnR} (h : OwnLines w lo (.slice A rows.length c) rows) : LinesAt w A c rows := by
  obtain ⟨A2, c2, e, h2⟩ := h.full
  injection e with e1 _ e3
  subst e1 e3
  exact h2
end Go.Proofs.YtbffebcjimhapaaDoor
namespace Go.Proofs.YtbffebcjimhapaaDoor
set_option linter.unusedVariables false
set_option linter.unusedSimpArgs false
open Go.ChangeShapes Go.WideShapes Go.ChangeAt Go.RowKit

/-- Has a text a byte that no word may have? -/
def spB (s : Bs) : Bool := s.any fun c => !isPlain c
/-- No such byte ahead of a place. -/
def NoSp (s : ByteArray) (i : Nat) : Prop := ∀ j (h : j < s.size), j < i → isPlain (s[j]'h) = true
theorem NoSp.none {s : ByteArray} (h : NoSp s s.size) : spB (toL s) = false := by
  unfold spB
  rw [List.any_eq_false]
  intro c hc
  obtain ⟨j, hj, rfl⟩ := List.mem_iff_getElem.1 hc
  have hj' : j < s.size := by rw [toL_size] at hj; exact hj
  have e : (toL s)[j]'hj = s[j]'hj' := by
    have := toL_at s hj'
    rw [List.getElem?_eq_getElem hj] at this
    exact Option.some.inj this
  rw [e, h j hj' hj']
  decide
theorem sp_hit {s : ByteArray} {i : Nat} (h : i < s.size) (hp : isPlain (s[i]'h) = false) : spB (toL s) = true := by
  unfold spB
  rw [List.any_eq_true]
  exact ⟨s[i]'h, List.mem_of_getElem? (toL_at s h), by rw [hp]; rfl⟩
end Go.Proofs.YtbffebcjimhapaaDoor
namespace Go.Proofs.YtbffebcjimhapaaDoor
set_option linter.unusedVariables false
set_option linter.unusedSimpArgs false
open Go.ChangeShapes Go.WideShapes Go.ChangeAt Go.RowKit

def mayW (s : Bs) : Bool := !s.isEmpty && !spB s
def mayL (l : List Bs) : Bool := !l.isEmpty && l.all mayW
def mayP (l : List (List Bs)) : Bool := l.all mayL
/-- Words with a blank between. -/
def wordsT (ws : List Bs) : Bs := (ws.flatMap fun w => 32 :: w).drop 1
def lineT (ws : List Bs) : Bs := wordsT ws ++ [10]
def textT (l : List (List Bs)) : Bs := l.flatMap lineT
def overP (l : List (List Bs)) : Bool := l.any (fun ws => decide (64 < ws.length)) || decide (16384 < (textT l).length)
/-- The text of lines, and the error. -/
def joinP (l : List (List Bs)) : Bs × Int := if mayP l then (if overP l then ([], 4) else (textT l, 0)) else ([], 2)
theorem wordsT_snoc (ws : List Bs) (w : Bs) : wordsT (ws ++ [w]) = wordsT ws ++ (if ws.isEmpty then [] else [32]) ++ w := by
  unfold wordsT
  rw [List.flatMap_append]
  cases ws with
  | nil => simp
  | cons a t => simp
theorem textT_snoc (l : List (List Bs)) (ws : List Bs) : textT (l ++ [ws]) = textT l ++ lineT ws := by
  unfold textT
  rw [List.flatMap_append]
  simp
theorem wordsT_len {ws : List Bs} (h : ∀ w ∈ ws, w.length ≤ 20000) : (wordsT ws).length ≤ 20001 * ws.length := by
  have h1 : ∀ l : List Bs, (∀ w ∈ l, w.length ≤ 20000) → (l.flatMap fun w => 32 :: w).length ≤ 20001 * l.length := by
    intro l
    induction l with
    | nil => intro _; exact Nat.zero_le _
    | cons a t ih =>
      intro hl
      have h2 := ih fun w hw => hl w (List.mem_cons_of_mem _ hw)
      have h3 := hl a List.mem_cons_self
      rw [List.flatMap_cons, List.length_append, List.length_cons, List.length_cons]
      omega
  have h2 := h1 ws h
  unfold wordsT
  rw [List.length_drop]
  omega
theorem textT_take (l : List (List Bs)) (k : Nat) : (textT (l.take k)).length ≤ (textT l).length := by
  conv => rhs; rw [← List.take_append_drop k l]
  unfold textT
  rw [List.flatMap_append, List.length_append]
  omega
theorem joinP_arg {l : List (List Bs)} {ws : List Bs} (h : ws ∈ l) (hn : mayL ws = false) : joinP l = ([], 2) := by
  unfold joinP
  rw [if_neg]
  unfold mayP
  rw [List.all_eq_true]
  intro hh
  rw [hh ws h] at hn
  cases hn
theorem joinP_many {l : List (List Bs)} (h : mayP l = true) {k : Nat} (hk : k < l.length) (ho : 64 < (l.getD k []).length ∨ 16384 < (textT (l.take (k + 1))).length) : joinP l = ([], 4) := by
  unfold joinP
  rw [if_pos h, if_pos]
  unfold overP
  rw [Bool.or_eq_true]
  rcases ho with ho | ho
  · left
    rw [List.any_eq_true]
    refine ⟨l.getD k [], ?_, decide_eq_true ho⟩
    rw [List.getD_eq_getElem?_getD, List.getElem?_eq_getElem hk]
    exact List.getElem_mem hk
  · right
    have := textT_take l (k + 1)
    exact decide_eq_true (by omega)
theorem joinP_ok {l : List (List Bs)} (h : mayP l = true) (h1 : ∀ ws ∈ l, ws.length ≤ 64) (h2 : (textT l).length ≤ 16384) : joinP l = (textT l, 0) := by
  unfold joinP
  rw [if_pos h, if_neg]
  unfold overP
  rw [Bool.or_eq_true]
  rintro (ho | ho)
  · obtain ⟨ws, hw, hl⟩ := List.any_eq_true.1 ho
    have := of_decide_eq_true hl
    have := h1 ws hw
    omega
  · have := of_decide_eq_true ho
    omega
/-- Lines that are few, their words not too great. -/
def FewL (rows : List LnR) : Prop := rows.length ≤ 3000 ∧ ∀ r ∈ rows, r.xs.length ≤ 80 ∧ ∀ x ∈ r.xs, x.size ≤ 20000
def JoinOf (rows : List LnR) (w : World) (e : Ending) (w' : World) : Prop :=
  ∃ t er, e = .returned (.tuple #[.string ⟨t.toArray⟩, .int .i64 er]) ∧ joinP (rows.map LnR.data) = (t, er) ∧ Below w.heap.size w w'
theorem data_at {rows : List LnR} {k : Nat} (h : k < rows.length) : (rows.map LnR.data).getD k [] = (rows.getD k default).data := by
  rw [List.getD_eq_getElem?_getD, List.getElem?_map, List.getD_eq_getElem?_getD, List.getElem?_eq_getElem h]
  rfl
theorem data_mem {rows : List LnR} {k : Nat} (h : k < rows.length) : (rows.getD k default).data ∈ rows.map LnR.data := by
  refine List.mem_map_of_mem ?_
  rw [List.getD_eq_getElem?_getD, List.getElem?_eq_getElem h]
  exact List.getElem_mem h
theorem row_mem {rows : List LnR} {k : Nat} (h : k < rows.length) : rows.getD k default ∈ rows := by
  rw [List.getD_eq_getElem?_getD, List.getElem?_eq_getElem h]
  exact List.getElem_mem h
end Go.Proofs.YtbffebcjimhapaaDoor
namespace Go.Proofs.YtbffebcjimhapaaDoor
set_option linter.unusedVariables false
set_option linter.unusedSimpArgs false
open Go.RowKit

/-- All lines' words, empty lines and too long ones too. -/
def rawL (s : Bs) : List (List Bs) := (cutB 10 s).map wordsR
theorem outR_raw (s : Bs) : outR s [] [] = if (rawL s).any (fun l => decide (64 < l.length)) then none else some ((rawL s).filter fun l => !l.isEmpty) := outR_start s
theorem cut_join (x : UInt8) (b : Bs) : ∀ a : Bs, cutB x (a ++ x :: b) = cutB x a ++ cutB x b
  | [] => by rw [List.nil_append, cut_at]; rfl
  | c :: t => by
    have ih := cut_join x b t
    rw [List.cons_append]
    by_cases h : c = x
    · subst h; rw [cut_at, cut_at, ih]; rfl
    · rw [cut_on h, cut_on h, ih]
      conv => lhs; rw [cut_head x t]
      rfl
theorem raw_join (a b : Bs) : rawL (a ++ 10 :: b) = rawL a ++ rawL b := by unfold rawL; rw [cut_join, List.map_append]
theorem cut_tail {x : UInt8} {n : Bs} (hn : ∀ c ∈ n, c ≠ x) : ∀ a : Bs, ∃ p l, cutB x a = p ++ [l] ∧ cutB x (a ++ n) = p ++ [l ++ n]
  | [] => ⟨[], [], rfl, by
    have := cut_app hn []
    rw [List.append_nil] at this
    rw [List.nil_append, this]
    show [n ++ []] = [[] ++ n]
    simp⟩
  | c :: t => by
    obtain ⟨p, l, h1, h2⟩ := cut_tail hn t
    rw [List.cons_append]
    by_cases h : c = x
    · subst h
      rw [cut_at, cut_at, h1, h2]
      exact ⟨[] :: p, l, rfl, rfl⟩
    · rw [cut_on h, cut_on h, h1, h2]
      cases p with
      | nil => exact ⟨[], c :: l, rfl, rfl⟩
      | cons q p => exact ⟨(c :: q) :: p, l, rfl, rfl⟩
theorem raw_tail {n : Bs} (hn : ∀ c ∈ n, c ≠ 10) (hw : ∀ p, wordsR (p ++ n) = wordsR p) (a : Bs) : rawL (a ++ n) = rawL a := by
  obtain ⟨p, l, h1, h2⟩ := cut_tail hn a
  unfold rawL
  rw [h1, h2, List.map_append, List.map_append, List.map_cons, List.map_cons, hw]
theorem raw_blank {c : UInt8} (h : isBlank c = true) (s : Bs) : rawL (c :: s) = rawL s := by
  have h10 : c ≠ 10 := by rintro rfl; exact absurd h (by decide)
  unfold rawL
  rw [cut_on h10, List.map_cons, words_blank h]
  conv => rhs; rw [cut_head 10 s]
  rfl
theorem head_hash (q : Bs) : ∀ p : Bs, (cutB 35 (p ++ 35 :: q)).headD [] = (cutB 35 p).headD []
  | [] => by rw [List.nil_append, cut_at]; rfl
  | c :: t => by
    rw [List.cons_append]
    by_cases h : c = 35
    · subst h; rw [cut_at, cut_at]; rfl
    · rw [cut_on h, cut_on h]
      show c :: _ = c :: _
      rw [head_hash q t]
theorem words_noise (q p : Bs) : wordsR (p ++ 35 :: q) = wordsR p := by unfold wordsR; rw [head_hash]
theorem head_blank {c : UInt8} (h : c ≠ 35) : ∀ p : Bs, (cutB 35 (p ++ [c])).headD [] = (cutB 35 p).headD [] ∨ (cutB 35 (p ++ [c])).headD [] = (cutB 35 p).headD [] ++ [c]
  | [] => by right; rw [List.nil_append, cut_on h]; rfl
  | d :: t => by
    rw [List.cons_append]
    by_cases h2 : d = 35
    · subst h2; left; rw [cut_at, cut_at]; rfl
    · rw [cut_on h2, cut_on h2]
      rcases head_blank h t with e | e
      · left; show d :: _ = d :: _; rw [e]
      · right; show d :: _ = (d :: _) ++ [c]; rw [e]; rfl
theorem words_tail {c : UInt8} (h : isBlank c = true) (p : Bs) : wordsR (p ++ [c]) = wordsR p := by
  have h35 : c ≠ 35 := by rintro rfl; exact absurd h (by decide)
  have hs : (if c = 9 ∨ c = 13 then 32 else c) = 32 := by
    unfold isBlank at h
    simp only [Bool.or_eq_true, beq_iff_eq] at h
    rcases h with (rfl | rfl) | rfl <;> rfl
  unfold wordsR
  rcases head_blank h35 p with e | e
  · rw [e]
  · rw [e]
    have e2 : spaced ((cutB 35 p).headD [] ++ [c]) = spaced ((cutB 35 p).headD []) ++ 32 :: [] := by unfold spaced; rw [List.map_append, List.map_cons, hs]; rfl
    rw [e2, cut_join, List.filter_append]
    show _ ++ [] = _
    rw [List.append_nil]
theorem raw_some {s : Bs} {m : List (List Bs)} (h : outR s [] [] = some m) : (rawL s).any (fun l => decide (64 < l.length)) = false ∧ (rawL s).filter (fun l => !l.isEmpty) = m := by
  rw [outR_raw] at h
  cases ha : (rawL s).any (fun l => decide (64 < l.length)) with
  | true => rw [ha] at h; cases h
  | false => rw [ha] at h; exact ⟨rfl, Option.some.inj h⟩
theorem raw_of {s : Bs} (h : (rawL s).any (fun l => decide (64 < l.length)) = false) : outR s [] [] = some ((rawL s).filter fun l => !l.isEmpty) := by rw [outR_raw, h]; rfl
/-- Both texts' lines, if the raw lines are both's and empty ones. -/
theorem both_of {s a b : Bs} {x y : List (List Bs)} (ha : outR a [] [] = some x) (hb : outR b [] [] = some y) {e : List (List Bs)} (he : ∀ l ∈ e, l = []) (h : rawL s = rawL a ++ (e ++ rawL b)) : outR s [] [] = some (x ++ y) := by
  obtain ⟨a1, a2⟩ := raw_some ha
  obtain ⟨b1, b2⟩ := raw_some hb
  have e1 : e.any (fun l => decide (64 < l.length)) = false := by
    rw [List.any_eq_false]
    intro l hl
    rw [he l hl]
    decide
  have e2 : e.filter (fun l => !l.isEmpty) = [] := by
    rw [List.filter_eq_nil_iff]
    intro l hl
    rw [he l hl]
    decide
  rw [raw_of (by rw [h, List.any_append, List.any_append, a1, e1, b1]; rfl), h, List.filter_append, List.filter_append, a2, e2, b2]
  rfl
theorem parts_1 {a b : Bs} {x y : List (List Bs)} (ha : outR a [] [] = some x) (hb : outR b [] [] = some y) : outR (a ++ 10 :: b) [] [] = some (x ++ y) :=
  both_of ha hb (e := []) (fun l h => by cases h) (by rw [raw_join]; rfl)
theorem parts_2 {a b n : Bs} {x y : List (List Bs)} (ha : outR a [] [] = some x) (hb : outR b [] [] = some y) (hn : ∀ c ∈ n, c ≠ 10) : outR ((a ++ 35 :: n) ++ 10 :: b) [] [] = some (x ++ y) :=
  both_of ha hb (e := []) (fun l h => by cases h) (by
    rw [raw_join, raw_tail (n := 35 :: n) (fun c hc => by
      rcases List.mem_cons.1 hc with rfl | hc
      · decide
      · exact hn c hc) (words_noise n)]
    rfl)
theorem parts_3 {a b : Bs} {x y : List (List Bs)} (ha : outR a [] [] = some x) (hb : outR b [] [] = some y) : outR (32 :: 9 :: (((a ++ [13]) ++ 10 :: 10 :: 32 :: 10 :: b) ++ [32])) [] [] = some (x ++ y) :=
  both_of ha hb (e := [[], []]) (fun l h => by simpa using h) (by
    rw [raw_blank (by decide), raw_blank (by decide), raw_tail (n := [32]) (by decide) (words_tail (by decide)), raw_join, raw_tail (n := [13]) (by decide) (words_tail (by decide))]
    rw [show (10 :: 32 :: 10 :: b : Bs) = [] ++ 10 :: ([32] ++ 10 :: b) from rfl, raw_join, raw_join]
    rfl)
/-! what is joined -/
theorem out_words {r : Bs} {ls : List (List Bs)} (hr : ∀ c t, r = c :: t → isPlain c = false) : ∀ (ws acc : List Bs), (∀ w ∈ ws, mayW w = true) → outR ((ws.flatMap fun w => 32 :: w) ++ r) acc ls = outR r (acc ++ ws) ls
  | [], acc, _ => by rw [List.append_nil]; rfl
  | w :: ws, acc, h => by
    have hw := h w List.mem_cons_self
    unfold mayW spB at hw
    rw [Bool.and_eq_true, Bool.not_eq_true', Bool.not_eq_true', List.any_eq_false] at hw
    rw [List.flatMap_cons, List.append_assoc, List.cons_append, out_blank (by decide), out_word (by rintro rfl; exact absurd hw.1 (by decide)) (fun c hc => by simpa using hw.2 c hc) ?_, out_words hr ws (acc ++ [w]) (fun v hv => h v (List.mem_cons_of_mem _ hv)), List.append_assoc]
    · rfl
    · intro c t e
      cases ws with
      | nil => exact hr c t e
      | cons v vs =>
        rw [List.flatMap_cons] at e
        have e2 : (32 : UInt8) = c := (List.cons.inj e).1
        rw [← e2]
        decide
theorem out_line {ws : List Bs} {r : Bs} {ls : List (List Bs)} (h : mayL ws = true) (hl : ws.length ≤ 64) : outR (lineT ws ++ r) [] ls = outR r [] (ls ++ [ws]) := by
  unfold mayL at h
  rw [Bool.and_eq_true, List.all_eq_true] at h
  have hne : ws.isEmpty = false := by simpa using h.1
  have h1 : outR (32 :: (lineT ws ++ r)) [] ls = outR (10 :: r) ([] ++ ws) ls := by
    rw [← out_words (r := 10 :: r) (ls := ls) (fun c t e => by rw [← (List.cons.inj e).1]; decide) ws [] h.2]
    unfold lineT wordsT
    cases ws with
    | nil => cases hne
    | cons w t => simp
  rw [out_blank (by decide)] at h1
  rw [h1, List.nil_append, out_feed, if_neg (by omega), hne]
  rfl
theorem out_text : ∀ (l ls : List (List Bs)), mayP l = true → (∀ ws ∈ l, ws.length ≤ 64) → outR (textT l) [] ls = some (ls ++ l)
  | [], ls, _, _ => by
    show outR [] [] ls = _
    rw [out_nil]
    rfl
  | ws :: l, ls, h, hl => by
    unfold mayP at h
    rw [List.all_cons, Bool.and_eq_true] at h
    show outR (lineT ws ++ textT l) [] ls = _
    rw [out_line h.1 (hl ws List.mem_cons_self), out_text l (ls ++ [ws]) h.2 fun v hv => hl v (List.mem_cons_of_mem _ hv), List.append_assoc]
    rfl
/-- What is joined has these lines. -/
theorem join_back {l : List (List Bs)} {t : Bs} (h : joinP l = (t, 0)) : linesP t = some l := by
  unfold joinP at h
  cases hm : mayP l with
  | false => rw [hm] at h; cases h
  | true =>
    rw [hm] at h
    cases ho : overP l with
    | true => rw [ho] at h; cases h
    | false =>
      rw [ho] at h
      obtain ⟨h1, _⟩ := Prod.mk.inj h
      unfold overP at ho
      rw [Bool.or_eq_false_iff, List.any_eq_false] at ho
      have h2 := of_decide_eq_false ho.2
      have h3 : textT l = t := h1
      unfold linesP
      rw [← h3, if_neg h2]
      exact out_text l [] hm fun ws hw => by
        have := ho.1 ws hw
        have := of_decide_eq_false (by simpa using this : decide (64 < ws.length) = false)
        omega
end Go.Proofs.YtbffebcjimhapaaDoor
namespace Go.Proofs.YtbffebcjimhapaaDoor
set_option linter.unusedVariables false
set_option linter.unusedSimpArgs false
open Go.RowKit

theorem cut_all (x : UInt8) : ∀ t : Bs, ∀ p ∈ cutB x t, ∀ c ∈ p, c ∈ t ∧ c ≠ x
  | [], p, hp, c, hc => by
    obtain rfl := List.mem_singleton.1 hp
    cases hc
  | d :: t, p, hp, c, hc => by
    by_cases h : d = x
    · subst h
      rw [cut_at] at hp
      rcases List.mem_cons.1 hp with rfl | hp
      · cases hc
      · obtain ⟨h1, h2⟩ := cut_all _ t p hp c hc
        exact ⟨List.mem_cons_of_mem _ h1, h2⟩
    · rw [cut_on h] at hp
      rw [cut_head x t] at *
      rcases List.mem_cons.1 hp with rfl | hp
      · rcases List.mem_cons.1 hc with rfl | hc
        · exact ⟨List.mem_cons_self, h⟩
        · obtain ⟨h1, h2⟩ := cut_all x t ((cutB x t).headD []) (by rw [cut_head x t]; exact List.mem_cons_self) c hc
          exact ⟨List.mem_cons_of_mem _ h1, h2⟩
      · obtain ⟨h1, h2⟩ := cut_all x t p (by rw [cut_head x t]; exact List.mem_cons_of_mem _ hp) c hc
        exact ⟨List.mem_cons_of_mem _ h1, h2⟩
theorem words_may {p : Bs} (h10 : ∀ c ∈ p, c ≠ 10) {w : Bs} (hw : w ∈ wordsR p) : mayW w = true := by
  unfold wordsR at hw
  obtain ⟨hm, hne⟩ := List.mem_filter.1 hw
  unfold mayW spB
  rw [Bool.and_eq_true, Bool.not_eq_true', Bool.not_eq_true']
  refine ⟨by simpa using hne, ?_⟩
  rw [List.any_eq_false]
  intro c hc
  obtain ⟨h1, h2⟩ := cut_all 32 _ w hm c hc
  obtain ⟨d, hd, he⟩ := List.mem_map.1 h1
  have hd35 := cut_no 35 p d hd
  have hdp : d ∈ p := (cut_all 35 p _ (by rw [cut_head 35 p]; exact List.mem_cons_self) d hd).1
  have hd10 := h10 d hdp
  by_cases h9 : d = 9 ∨ d = 13
  · rw [if_pos h9] at he
    exact absurd he.symm h2
  · rw [if_neg h9] at he
    subst he
    unfold isPlain isBlank
    simp only [Bool.not_not, Bool.or_eq_true, beq_iff_eq, not_or]
    exact ⟨⟨⟨⟨h2, fun e => h9 (.inl e)⟩, fun e => h9 (.inr e)⟩, hd10⟩, hd35⟩
def lens (l : List Bs) : Nat := (l.map List.length).sum
theorem lens_cons (p : Bs) (l : List Bs) : lens (p :: l) = p.length + lens l := by unfold lens; rw [List.map_cons, List.sum_cons]
theorem cut_lens (x : UInt8) : ∀ t : Bs, lens (cutB x t) ≤ t.length
  | [] => Nat.le_refl _
  | d :: t => by
    have ih := cut_lens x t
    by_cases h : d = x
    · subst h
      rw [cut_at, lens_cons, List.length_cons]
      simp only [List.length_nil]
      omega
    · rw [cut_on h, lens_cons, List.length_cons, List.length_cons]
      rw [cut_head x t, lens_cons] at ih
      omega
theorem lens_filter (f : Bs → Bool) : ∀ l : List Bs, lens (l.filter f) ≤ lens l
  | [] => Nat.le_refl _
  | p :: l => by
    have ih := lens_filter f l
    rw [List.filter_cons]
    split
    · rw [lens_cons, lens_cons]; omega
    · rw [lens_cons]; omega
theorem words_lens (p : Bs) : lens (wordsR p) ≤ p.length := by
  have h1 : lens (wordsR p) ≤ lens (cutB 32 (spaced ((cutB 35 p).headD []))) := lens_filter _ _
  have h2 := cut_lens 32 (spaced ((cutB 35 p).headD []))
  have h3 : (spaced ((cutB 35 p).headD [])).length = ((cutB 35 p).headD []).length := by unfold spaced; rw [List.length_map]
  have h4 := cut_lens 35 p
  rw [cut_head 35 p, lens_cons] at h4
  omega
theorem line_len : ∀ ws : List Bs, (∀ w ∈ ws, 0 < w.length) → (ws.flatMap fun w => 32 :: w).length ≤ 2 * lens ws
  | [], _ => Nat.le_refl _
  | w :: ws, h => by
    have ih := line_len ws fun v hv => h v (List.mem_cons_of_mem _ hv)
    have hw := h w List.mem_cons_self
    rw [List.flatMap_cons, List.length_append, List.length_cons, lens_cons]
    omega
theorem lineT_le {ws : List Bs} (h : mayL ws = true) : (lineT ws).length ≤ 2 * lens ws := by
  unfold mayL at h
  rw [Bool.and_eq_true, List.all_eq_true] at h
  have hpos : ∀ w ∈ ws, 0 < w.length := fun w hw => by
    have := h.2 w hw
    unfold mayW at this
    rw [Bool.and_eq_true] at this
    cases w with
    | nil => exact absurd this.1 (by decide)
    | cons => exact Nat.succ_pos _
  have h1 := line_len ws hpos
  have h2 : 0 < (ws.flatMap fun w => 32 :: w).length := by
    cases ws with
    | nil => exact absurd h.1 (by decide)
    | cons w t => rw [List.flatMap_cons, List.cons_append, List.length_cons]; exact Nat.succ_pos _
  unfold lineT wordsT
  rw [List.length_append, List.length_drop]
  simp only [List.length_cons, List.length_nil]
  omega
theorem text_le : ∀ (l : List Bs) , (textT ((l.map wordsR).filter fun ws => !ws.isEmpty)).length ≤ 2 * lens l ∨ ¬ ∀ p ∈ l, ∀ c ∈ p, c ≠ 10
  | [] => .inl (Nat.le_refl _)
  | p :: l => by
    by_cases h10 : ∀ q ∈ p :: l, ∀ c ∈ q, c ≠ 10
    · left
      rcases text_le l with ih | ih
      · rw [List.map_cons, List.filter_cons, lens_cons]
        split
        · rename_i hne
          have hm : mayL (wordsR p) = true := by
            unfold mayL
            rw [Bool.and_eq_true, List.all_eq_true]
            exact ⟨hne, fun w hw => words_may (h10 p List.mem_cons_self) hw⟩
          have h1 := lineT_le hm
          have h2 := words_lens p
          show (lineT (wordsR p) ++ textT _).length ≤ _
          rw [List.length_append]
          have ih' : (textT ((l.map wordsR).filter fun ws => !ws.isEmpty)).length ≤ 2 * lens l := ih
          omega
        · have ih' : (textT ((l.map wordsR).filter fun ws => !ws.isEmpty)).length ≤ 2 * lens l := ih
          omega
      · exact absurd (fun q hq => h10 q (List.mem_cons_of_mem _ hq)) ih
    · exact .inr h10
/-- What has lines may be joined. -/
theorem lines_join {s : Bs} {m : List (List Bs)} (hs : s.length ≤ 8000) (h : linesP s = some m) : joinP m = (textT m, 0) := by
  unfold linesP at h
  rw [if_neg (by omega)] at h
  obtain ⟨h1, h2⟩ := raw_some h
  have h10 : ∀ p ∈ cutB 10 s, ∀ c ∈ p, c ≠ 10 := fun p hp c hc => (cut_all 10 s p hp c hc).2
  have hmem : ∀ ws ∈ m, ∃ p ∈ cutB 10 s, wordsR p = ws ∧ (!ws.isEmpty) = true := fun ws hw => by
    rw [← h2] at hw
    obtain ⟨h3, h4⟩ := List.mem_filter.1 hw
    obtain ⟨p, hp, e⟩ := List.mem_map.1 h3
    exact ⟨p, hp, e, h4⟩
  refine joinP_ok ?_ ?_ ?_
  · unfold mayP
    rw [List.all_eq_true]
    intro ws hw
    obtain ⟨p, hp, e, hne⟩ := hmem ws hw
    unfold mayL
    rw [Bool.and_eq_true, List.all_eq_true]
    refine ⟨hne, fun v hv => words_may (h10 p hp) (by rw [e]; exact hv)⟩
  · intro ws hw
    obtain ⟨p, hp, e, hne⟩ := hmem ws hw
    have := (List.any_eq_false.1 h1) ws (by rw [← e]; exact List.mem_map.2 ⟨p, hp, rfl⟩)
    have := of_decide_eq_false (by simpa using this : decide (64 < ws.length) = false)
    omega
  · rcases text_le (cutB 10 s) with h3 | h3
    · have h4 := cut_lens 10 s
      rw [← h2]
      have h5 : (textT (((cutB 10 s).map wordsR).filter fun ws => !ws.isEmpty)).length ≤ 2 * lens (cutB 10 s) := h3
      show (textT ((rawL s).filter fun l => !l.isEmpty)).length ≤ 16384
      unfold rawL
      omega
    · exact absurd h10 h3
/-- The lines of a text: how many, and how great. -/
theorem lines_few {s : Bs} {m : List (List Bs)} (h : linesP s = some m) : m.length ≤ s.length + 1 ∧ ∀ ws ∈ m, ws.length ≤ 64 ∧ ∀ w ∈ ws, w.length ≤ s.length := by
  unfold linesP at h
  split at h
  · cases h
  · obtain ⟨h1, h2⟩ := raw_some h
    refine ⟨?_, fun ws hw => ?_⟩
    · have h3 : m.length ≤ (rawL s).length := by rw [← h2]; exact List.length_filter_le _ _
      have h4 : ∀ t : Bs, (cutB 10 t).length ≤ t.length + 1 := by
        intro t
        induction t with
        | nil => exact Nat.le_refl _
        | cons c t ih =>
          by_cases e : c = 10
          · subst e; rw [cut_at, List.length_cons, List.length_cons]; omega
          · rw [cut_on e, List.length_cons, List.length_cons]
            rw [cut_head 10 t, List.length_cons] at ih
            omega
      have h5 := h4 s
      unfold rawL at h3
      rw [List.length_map] at h3
      omega
    · rw [← h2] at hw
      obtain ⟨h3, h4⟩ := List.mem_filter.1 hw
      have := (List.any_eq_false.1 h1) ws h3
      have := of_decide_eq_false (by simpa using this : decide (64 < ws.length) = false)
      refine ⟨by omega, fun w hw2 => ?_⟩
      obtain ⟨p, hp, e⟩ := List.mem_map.1 h3
      have h5 := words_lens p
      rw [e] at h5
      have h6 : w.length ≤ lens ws := by
        unfold lens
        have : ∀ l : List Nat, ∀ x ∈ l, x ≤ l.sum := fun l => by
          induction l with
          | nil => intro x hx; cases hx
          | cons a t ih =>
            intro x hx
            rw [List.sum_cons]
            rcases List.mem_cons.1 hx with rfl | hx
            · omega
            · have := ih x hx; omega
        exact this _ _ (List.mem_map.2 ⟨w, hw2, rfl⟩)
      have h7 := cut_lens 10 s
      have h8 : p.length ≤ lens (cutB 10 s) := by
        unfold lens
        have : ∀ l : List Nat, ∀ x ∈ l, x ≤ l.sum := fun l => by
          induction l with
          | nil => intro x hx; cases hx
          | cons a t ih =>
            intro x hx
            rw [List.sum_cons]
            rcases List.mem_cons.1 hx with rfl | hx
            · omega
            · have := ih x hx; omega
        exact this _ _ (List.mem_map.2 ⟨p, hp, rfl⟩)
      omega
end Go.Proofs.YtbffebcjimhapaaDoor
namespace Go.Proofs.YtbffebcjimhapaaDoor
set_option linter.unusedVariables false
set_option linter.unusedSimpArgs false
open Go.ChangeShapes Go.WideShapes Go.ChangeAt Go.RowKit

/-- Lines are none of them empty; words may be. -/
theorem lines_full {s : Bs} {m : List (List Bs)} (h : linesP s = some m) : ∀ ws ∈ m, ws ≠ [] ∧ ∀ w ∈ ws, mayW w = true := by
  unfold linesP at h
  split at h
  · cases h
  · obtain ⟨h1, h2⟩ := raw_some h
    intro ws hw
    rw [← h2] at hw
    obtain ⟨h3, h4⟩ := List.mem_filter.1 hw
    refine ⟨fun e => (by subst e; cases h4), fun w hw => ?_⟩
    unfold rawL at h3
    obtain ⟨p, hp, rfl⟩ := List.mem_map.1 h3
    exact words_may (fun c hc => (cut_all 10 s p hp c hc).2) hw
theorem mayW_pos {w : Bs} (h : mayW w = true) : 0 < w.length := by
  cases w with
  | nil => cases h
  | cons a t => exact Nat.succ_pos _
theorem lines_len {s : Bs} {m : List (List Bs)} (h : linesP s = some m) : m.length ≤ 20000 := by
  have h1 := (lines_few h).1
  unfold linesP at h
  split at h
  · cases h
  · omega
theorem lines_ok {s : Bs} {rows : List LnR} (h : linesP s = some (rows.map LnR.data)) {A : Option Addr} {c : Nat} : LOk ⟨A, c, rows⟩ := by
  have h1 := lines_full h
  have h2 := (lines_few h).2
  have h3 := lines_len h
  rw [List.length_map] at h3
  refine ⟨fun r hr => ?_, fun r hr => ?_, h3⟩
  · have hm : r.data ∈ rows.map LnR.data := List.mem_map_of_mem hr
    obtain ⟨h4, h5⟩ := h1 _ hm
    refine ⟨?_, fun x hx => ?_⟩
    · rw [← LnR.data_len]
      cases hd : r.data with
      | nil => exact absurd hd h4
      | cons a t => exact Nat.succ_pos _
    · have := mayW_pos (h5 (toL x) (List.mem_map_of_mem hx))
      rw [toL_size] at this
      exact this
  · have hm : r.data ∈ rows.map LnR.data := List.mem_map_of_mem hr
    have := (h2 _ hm).1
    rw [← LnR.data_len]
    omega
theorem lines64 {s : Bs} {m : List (List Bs)} (h : linesP s = some m) : Few64 m := fun ws hw => ((lines_few h).2 ws hw).1
def ReadOut (o : PProg × Int) (w : World) (e : Ending) (w' : World) : Prop := ∃ r : PrR, e = .returned (.tuple #[r.val, .int .i64 o.2]) ∧ OwnPr w' w.heap.size r ∧ r.data = o.1 ∧ Below w.heap.size w w'
def noPr : PrR := ⟨none, 0, [], none, 0, []⟩
theorem noPr_own (w : World) (lo : Nat) : OwnPr w lo noPr := ⟨OwnTys.nil _ _, OwnFus.nil _ _⟩
theorem OwnPr.spareOf {w w' : World} {lo : Nat} {p : PrR} {t : TypeId} (h : OwnPr w lo p) (hs : Spare t w w') (h1 : 3 ≠ t) (h2 : 41 ≠ t) (h3 : 39 ≠ t) (h4 : 36 ≠ t) (h5 : 31 ≠ t) : OwnPr w' lo p := ⟨h.types.spare hs h1 h2, h.funs.spare hs h1 h3 h4 h5⟩
theorem OwnPr.keepOn {w w' : World} {lo : Nat} {p : PrR} (h : OwnPr w lo p) (hb : Below w.heap.size w w') : OwnPr w' lo p := ⟨h.types.keep hb, h.funs.keep hb⟩
theorem OwnPr.moreOn {w : World} {lo lo' : Nat} {p : PrR} (h : OwnPr w lo p) (hl : lo' ≤ lo) : OwnPr w lo' p := ⟨h.types.more hl, h.funs.more hl⟩
section
variable {s : Bs} {m : List (List Bs)} {p : PProg}
theorem readA_none (h : linesP s = none) : readA s = (noProg, 4) := by unfold readA; rw [h]
theorem readA_bad (h : linesP s = some m) (h1 : programQ m = none) : readA s = (noProg, 70) := by unfold readA; rw [h]; dsimp only; rw [h1]
theorem readA_check (h : linesP s = some m) (h1 : programQ m = some p) (h2 : checkP p ≠ 0) : readA s = (noProg, checkP p) := by unfold readA; rw [h]; dsimp only; rw [h1]; dsimp only; rw [if_pos h2]
theorem readA_ok (h : linesP s = some m) (h1 : programQ m = some p) (h2 : checkP p = 0) : readA s = (p, 0) := by unfold readA; rw [h]; dsimp only; rw [h1]; dsimp only; rw [if_neg (by rw [h2]; decide)]
end
set_option maxRecDepth 100000 in
set_option maxHeartbeats 3200000 in
theorem pread_any (s : ByteArray) (hs : s.size ≤ 20000) (w : World) (hT : TabW w) : Calls Tryd.prog 7 #[.string s] w (ReadOut (readA (toL s)) w) := by
  have hmf : ∀ (fn : Fn) (first cap : Array Value) (w : World), (Instr.makeFunc fn first cap).run Tryd.prog w = .ok (.func fn first cap) w := fun _ _ _ _ => rfl
  have HL := Lib.hid (fun W => plines_any s hs W)
  have HK := Lib.hid (((Blk.new w 25 #[.slice none 0 0, .slice none 0 0])).alloc (.cells #[.int .i64 0] 26))
  have HE := Lib.hid (Blk.new2 w (.cells #[.slice none 0 0, .slice none 0 0] 25) 26 #[.int .i64 0])
  have HB : Hid (Below w.heap.size w ((w.alloc (.cells #[.slice none 0 0, .slice none 0 0] 25)).alloc (.cells #[.int .i64 0] 26))) := Lib.hid (((Below.refl _ _).alloc (Nat.le_refl _) _).alloc (by rw [World.size_alloc]; omega) _)
  have HT := Lib.hid hT
  clear hT
  obtain ⟨z, hz⟩ : ∃ z, readA (toL s) = z := ⟨_, rfl⟩
  rw [hz]
  have HZ := Lib.hid hz
  clear hz
  cases hl : linesP (toL s) with
  | none =>
    rw [hl] at HL
    have HZ2 : Hid (z = (noProg, 4)) := Lib.hid (HZ.out.symm.trans (readA_none hl))
    clear hl
    go_enter_defers Tryd.func7, Tryd.ntmps7
    go_wp2_with (go_at_call 11; refine (HL.out _).mono ?_; rintro e w1 ⟨rfl, hb⟩; have HB1 := Lib.hid (HB.out.trans (hb.mono HB.out.size)); have HK1 := Lib.hid (HK.out.beneath hb); have HE1 := Lib.hid (HE.out.beneath hb); have k0 := HK1.out.cells 0; have k1 := HK1.out.cells 1; have k2 := HE1.out.cells 0; have k3 := HE1.out.free 0; have k4 := HK1.out.free 0; have k5 := HK1.out.free 1; clear hb)
    have HE2 := Lib.hid (HE1.out.put 0 (.int .i64 4))
    have HK2 := Lib.hid (HK1.out.far (p := ⟨w.heap.size + 1, 0, none⟩) (by show w.heap.size ≠ w.heap.size + 1; omega) (.int .i64 4))
    have HB2 := Lib.hid (HB1.out.setCell (p := ⟨w.heap.size + 1, 0, none⟩) (by show w.heap.size ≤ w.heap.size + 1; omega) (.int .i64 4))
    clear k0 k1 k2 k3 k4 k5 HE1 HK1 HB1
    generalize w1.setCell ⟨w.heap.size + 1, 0, none⟩ (.int .i64 4) = w2 at *
    have k0 := HK2.out.cells 0
    have k1 := HK2.out.cells 1
    have k2 := HE2.out.cells 0
    have k3 := HE2.out.free 0
    have k4 := HK2.out.free 0
    have k5 := HK2.out.free 1
    go_region
    have HK3 := Lib.hid (((HK2.out.put 0 (.slice none 0 0)).put 1 (.slice none 0 0)).far (p := ⟨w.heap.size + 1, 0, none⟩) (by show w.heap.size ≠ w.heap.size + 1; omega) (.int .i64 4))
    have HE3 := Lib.hid (((HE2.out.far (p := ⟨w.heap.size, 0, none⟩) (by show w.heap.size + 1 ≠ w.heap.size; omega) (.slice none 0 0)).far (p := ⟨w.heap.size, 1, none⟩) (by show w.heap.size + 1 ≠ w.heap.size; omega) (.slice none 0 0)).put 0 (.int .i64 4))
    have HB3 := Lib.hid (((HB2.out.setCell (p := ⟨w.heap.size, 0, none⟩) (Nat.le_refl _) (.slice none 0 0)).setCell (p := ⟨w.heap.size, 1, none⟩) (Nat.le_refl _) (.slice none 0 0)).setCell (p := ⟨w.heap.size + 1, 0, none⟩) (by show w.heap.size ≤ w.heap.size + 1; omega) (.int .i64 4))
    have q0 := HK3.out.cells 0
    have q1 := HK3.out.cells 1
    have q2 := HE3.out.cells 0
    have HBd := Lib.hid (HB3.out.drew)
    go_wp2_with fail
    simp [bodyPostD, Leaves, results, Tryd.results7, go_sem, q0, q1, q2]
    rw [HZ2.out]
    exact ⟨noPr, rfl, noPr_own _ _, rfl, HBd.out⟩
  | some m =>
    rw [hl] at HL
    go_enter_defers Tryd.func7, Tryd.ntmps7
    go_wp2_with (go_at_call 11; refine (HL.out _).mono ?_; rintro e w1 ⟨v1, rows, rfl, hown, hdat, hb⟩; have HB1 := Lib.hid (HB.out.trans (hb.mono HB.out.size)); have HK1 := Lib.hid (HK.out.beneath hb); have HE1 := Lib.hid (HE.out.beneath hb); have HD := Lib.hid hdat; have HOW := Lib.hid hown; obtain ⟨A1, c1, rfl, _⟩ := hown.full; have k0 := HK1.out.cells 0; have k1 := HK1.out.cells 1; have k2 := HE1.out.cells 0; have k3 := HE1.out.free 0; have k4 := HK1.out.free 0; have k5 := HK1.out.free 1; clear hb hdat hown)
    have HE2 := Lib.hid (HE1.out.put 0 (.int .i64 0))
    have HK2 := Lib.hid (HK1.out.far (p := ⟨w.heap.size + 1, 0, none⟩) (by show w.heap.size ≠ w.heap.size + 1; omega) (.int .i64 0))
    have hb2 := HB1.out.setCell (p := ⟨w.heap.size + 1, 0, none⟩) (by show w.heap.size ≤ w.heap.size + 1; omega) (.int .i64 0)
    have HOW2 : Hid (OwnLines (w1.setCell ⟨w.heap.size + 1, 0, none⟩ (.int .i64 0)) (w.heap.size + 2) (.slice A1 rows.length c1) rows) := Lib.hid (by
      have h1 : ((w.alloc (.cells #[.slice none 0 0, .slice none 0 0] 25)).alloc (.cells #[.int .i64 0] 26)).heap.size = w.heap.size + 2 := by rw [World.size_alloc, World.size_alloc]
      have h2 := HOW.out
      rw [h1] at h2
      have hs := Spare.set (j := 0) HE1.out (.int .i64 0)
      exact ⟨ownsRow_spare h2.row hs (by decide), fun r hr => (h2.ok r hr).spare hs (by decide)⟩)
    have hsz : w1.heap.size = (w1.setCell ⟨w.heap.size + 1, 0, none⟩ (.int .i64 0)).heap.size := (size_set _ _ _).symm
    clear k0 k1 k2 k3 k4 k5 HE1 HK1 HB1 HOW
    rw [hsz]
    clear hsz
    generalize w1.setCell ⟨w.heap.size + 1, 0, none⟩ (.int .i64 0) = w2 at *
    have HB2 := Lib.hid hb2
    have HR : Hid (Rdr (w2.alloc (.cells #[.slice A1 rows.length c1, .slice none 0 0, .slice none 0 0, .slice none 0 0] 63)) w2.heap.size ⟨A1, c1, rows⟩ ⟨none, 0, []⟩ (.slice none 0 0) (.slice none 0 0)) := Lib.hid ⟨Blk.new _ _ _, HOW2.out.ls.on ((Below.refl _ _).alloc (Nat.le_refl _) _), ⟨⟨⟨Nat.le_refl _, Nat.zero_le _, fun _ => ⟨rfl, rfl⟩⟩, fun h => absurd h (Nat.lt_irrefl 0)⟩, fun h => absurd h (Nat.lt_irrefl 0)⟩⟩
    have HBN := Lib.hid (HB2.out.alloc (HB2.out.size) (.cells #[.slice A1 rows.length c1, .slice none 0 0, .slice none 0 0, .slice none 0 0] 63))
    have HLO : Hid (LOk ⟨A1, c1, rows⟩) := Lib.hid (lines_ok (s := toL s) (by rw [hl, HD.out]))
    have HLD : Hid ((⟨A1, c1, rows⟩ : LsR).data = m) := HD
    have HPR := Lib.hid (rprogram_any HR.out HLO.out (HT.out.on HBN.out))
    rw [HLD.out] at HPR
    have HK3 := Lib.hid (HK2.out.alloc (.cells #[.slice A1 rows.length c1, .slice none 0 0, .slice none 0 0, .slice none 0 0] 63))
    have HE3 := Lib.hid (HE2.out.alloc (.cells #[.slice A1 rows.length c1, .slice none 0 0, .slice none 0 0, .slice none 0 0] 63))
    have hn1 : w.heap.size ≠ w2.heap.size := by have := HK2.out.lt; omega
    have hn2 : w.heap.size + 1 ≠ w2.heap.size := by have := HE2.out.lt; omega
    have hg0 : w.heap.size ≤ w2.heap.size := HB2.out.size
    have HL64 := Lib.hid (lines64 hl)
    have HLL := Lib.hid (lines_len hl)
    obtain ⟨o, ho⟩ : ∃ o, programQ m = o := ⟨_, rfl⟩
    rw [ho] at HPR
    have HPQ := Lib.hid ho
    have HLQ := Lib.hid hl
    show Calls _ _ _ _ _
    refine HPR.out.mono ?_
    rintro e w3 ⟨ht, hm⟩
    have HK4 := Lib.hid (ht.blk HK3.out hn1)
    have HE4 := Lib.hid (ht.blk HE3.out hn2)
    have HB4 := Lib.hid (HBN.out.trans (ht.below (HBN.out.size) hg0))
    clear ho hl hb2 hn1 hn2
    cases o with
    | none =>
      have hm : e = giveUp := hm
      subst hm
      clear ht
      go_wp2_with fail
      have HZ2 : Hid (z = (noProg, 70)) := Lib.hid (HZ.out.symm.trans (readA_bad HLQ.out HPQ.out))
      refine leaves_cons (f := 16) (args := #[.pointer (some ⟨w.heap.size, 0, none⟩), .pointer (some ⟨w.heap.size + 1, 0, none⟩)]) (by simp) (by simp [go_sem]) ?_
      refine (catch_wrong w.heap.size (w.heap.size + 1) w3 HK4.out HE4.out (by omega)).mono ?_
      rintro e u' w5 ⟨rfl, rfl, h1, h2, h3⟩
      rw [Nat.min_eq_left (Nat.le_succ _)] at h3
      have q0 := h1.cells 0
      have q1 := h1.cells 1
      have q2 := h2.cells 0
      simp [Leaves, settle, results, Tryd.results7, go_sem, q0, q1, q2]
      rw [HZ2.out]
      exact ⟨noPr, rfl, noPr_own _ _, rfl, HB4.out.trans h3⟩
    | some p =>
      obtain ⟨r, l', x', rfl, hrd, hro, hrr⟩ := hm
      have HPL := Lib.hid (programQ_few HL64.out HPQ.out)
      rw [← hrd] at HPL
      have HCK := Lib.hid (ppcheck_is hro.prog.1 (HPL.out.prog HLL.out) (HT.out.on HB4.out) rfl)
      have HRO := Lib.hid hro
      have HRR := Lib.hid hrr
      have HRD := Lib.hid hrd
      obtain ⟨ta, tc, types, fa, fc, funs⟩ := r
      unfold PrR.val at HCK
      dsimp only at *
      have c2 := HRR.out.blk.cells 2
      have c3 := HRR.out.blk.cells 3
      generalize hck : checkP (PrR.data ⟨ta, tc, types, fa, fc, funs⟩) = ck at HCK
      have HCE := Lib.hid hck
      clear ht hro hrr hck
      by_cases hc0 : ck = 0
      · subst hc0
        go_wp2_with (go_at_call 12; refine HCK.out.mono ?_; rintro e w4 ⟨rfl, hb⟩; have HB5 := Lib.hid (HB4.out.trans (hb.mono HB4.out.size)); have HK5 := Lib.hid (HK4.out.beneath hb); have HE5 := Lib.hid (HE4.out.beneath hb); have HRR5 := Lib.hid (HRR.out.on hb); have HRO5 := Lib.hid (HRO.out.keepOn hb); have d2 := HRR5.out.blk.cells 2; have d3 := HRR5.out.blk.cells 3; have k0 := HK5.out.cells 0; have k1 := HK5.out.cells 1; have k2 := HE5.out.cells 0; have k3 := HE5.out.free 0; have k4 := HK5.out.free 0; have k5 := HK5.out.free 1; clear hb)
        have HK6 := Lib.hid (((HK5.out.put 0 (.slice ta types.length tc)).put 1 (.slice fa funs.length fc)).far (p := ⟨w.heap.size + 1, 0, none⟩) (by show w.heap.size ≠ w.heap.size + 1; omega) (.int .i64 0))
        have HE6 := Lib.hid (((HE5.out.far (p := ⟨w.heap.size, 0, none⟩) (by show w.heap.size + 1 ≠ w.heap.size; omega) (.slice ta types.length tc)).far (p := ⟨w.heap.size, 1, none⟩) (by show w.heap.size + 1 ≠ w.heap.size; omega) (.slice fa funs.length fc)).put 0 (.int .i64 0))
        have HB6 := Lib.hid (((HB5.out.setCell (p := ⟨w.heap.size, 0, none⟩) (Nat.le_refl _) (.slice ta types.length tc)).setCell (p := ⟨w.heap.size, 1, none⟩) (Nat.le_refl _) (.slice fa funs.length fc)).setCell (p := ⟨w.heap.size + 1, 0, none⟩) (by show w.heap.size ≤ w.heap.size + 1; omega) (.int .i64 0))
        have q3 := HK6.out.cells 0
        have q4 := HK6.out.cells 1
        have q5 := HE6.out.cells 0
        refine leaves_cons (f := 16) (args := #[.pointer (some ⟨w.heap.size, 0, none⟩), .pointer (some ⟨w.heap.size + 1, 0, none⟩)]) (by simp) (by simp [go_sem]) ?_
        refine (catch_idle ⟨w.heap.size, 0, none⟩ ⟨w.heap.size + 1, 0, none⟩ _).mono ?_
        rintro e u' w5 ⟨rfl, rfl, rfl⟩
        simp [Leaves, settle, results, Tryd.results7, go_sem, q3, q4, q5]
        have HZ2 : Hid (z = ((⟨ta, tc, types, fa, fc, funs⟩ : PrR).data, 0)) := Lib.hid (by rw [HRD.out]; exact HZ.out.symm.trans (readA_ok HLQ.out HPQ.out (by rw [← HRD.out]; exact HCE.out)))
        rw [HZ2.out]
        have hs1 : Spare 25 w4 (w4.setCell ⟨w.heap.size, 0, none⟩ (.slice ta types.length tc)) := Spare.set HK5.out _
        have hs2 : Spare 25 _ ((w4.setCell ⟨w.heap.size, 0, none⟩ (.slice ta types.length tc)).setCell ⟨w.heap.size, 1, none⟩ (.slice fa funs.length fc)) := Spare.set (HK5.out.put 0 _) _
        have hs3 : Spare 26 _ (((w4.setCell ⟨w.heap.size, 0, none⟩ (.slice ta types.length tc)).setCell ⟨w.heap.size, 1, none⟩ (.slice fa funs.length fc)).setCell ⟨w.heap.size + 1, 0, none⟩ (.int .i64 0)) := Spare.set ((HE5.out.far (p := ⟨w.heap.size, 0, none⟩) (by show w.heap.size + 1 ≠ w.heap.size; omega) (.slice ta types.length tc)).far (p := ⟨w.heap.size, 1, none⟩) (by show w.heap.size + 1 ≠ w.heap.size; omega) (.slice fa funs.length fc)) _
        exact ⟨⟨ta, tc, types, fa, fc, funs⟩, rfl, (((HRO5.out.spareOf (hs1.trans hs2) (by decide) (by decide) (by decide) (by decide) (by decide)).spareOf hs3 (by decide) (by decide) (by decide) (by decide) (by decide)).moreOn HBN.out.size), rfl, HB6.out⟩
      · have q1 : (ck == 0) = false := by simpa using hc0
        have q2 : (ck != 0) = true := by simpa using hc0
        have HC0 := Lib.hid hc0
        clear hc0
        go_wp2_with (go_at_call 12; refine HCK.out.mono ?_; rintro e w4 ⟨rfl, hb⟩; have HB5 := Lib.hid (HB4.out.trans (hb.mono HB4.out.size)); have HK5 := Lib.hid (HK4.out.beneath hb); have HE5 := Lib.hid (HE4.out.beneath hb); have k0 := HK5.out.cells 0; have k1 := HK5.out.cells 1; have k2 := HE5.out.cells 0; have k3 := HE5.out.free 0; have k4 := HK5.out.free 0; have k5 := HK5.out.free 1; clear hb)
        have HK6 := Lib.hid (((HK5.out.put 0 (.slice none 0 0)).put 1 (.slice none 0 0)).far (p := ⟨w.heap.size + 1, 0, none⟩) (by show w.heap.size ≠ w.heap.size + 1; omega) (.int .i64 ck))
        have HE6 := Lib.hid (((HE5.out.far (p := ⟨w.heap.size, 0, none⟩) (by show w.heap.size + 1 ≠ w.heap.size; omega) (.slice none 0 0)).far (p := ⟨w.heap.size, 1, none⟩) (by show w.heap.size + 1 ≠ w.heap.size; omega) (.slice none 0 0)).put 0 (.int .i64 ck))
        have HB6 := Lib.hid (((HB5.out.setCell (p := ⟨w.heap.size, 0, none⟩) (Nat.le_refl _) (.slice none 0 0)).setCell (p := ⟨w.heap.size, 1, none⟩) (Nat.le_refl _) (.slice none 0 0)).setCell (p := ⟨w.heap.size + 1, 0, none⟩) (by show w.heap.size ≤ w.heap.size + 1; omega) (.int .i64 ck))
        have q3 := HK6.out.cells 0
        have q4 := HK6.out.cells 1
        have q5 := HE6.out.cells 0
        refine leaves_cons (f := 16) (args := #[.pointer (some ⟨w.heap.size, 0, none⟩), .pointer (some ⟨w.heap.size + 1, 0, none⟩)]) (by simp) (by simp [go_sem]) ?_
        refine (catch_idle ⟨w.heap.size, 0, none⟩ ⟨w.heap.size + 1, 0, none⟩ _).mono ?_
        rintro e u' w5 ⟨rfl, rfl, rfl⟩
        simp [Leaves, settle, results, Tryd.results7, go_sem, q3, q4, q5]
        have HZ2 : Hid (z = (noProg, ck)) := Lib.hid (by
          have h1 := HCE.out
          rw [HRD.out] at h1
          have h2 := readA_check HLQ.out HPQ.out (by rw [h1]; exact HC0.out)
          rw [h1] at h2
          exact HZ.out.symm.trans h2)
        rw [HZ2.out]
        exact ⟨noPr, rfl, noPr_own _ _, rfl, HB6.out⟩
end Go.Proofs.YtbffebcjimhapaaDoor
namespace Go.Proofs.YtbffebcjimhapaaDoor
set_option linter.unusedVariables false
set_option linter.unusedSimpArgs false
open Go.ChangeShapes Go.WideShapes Go.ChangeAt Go.RowKit

/-- No list of instructions is greater than memory. -/
def ProgFit (p : PrR) : Prop := ∀ f ∈ p.funs, ∀ b ∈ f.blocks, b.ins.length ≤ 4000000000000
structure InLim (x : InR) : Prop where
  args : x.args.length ≤ 20
  froms : x.from_.length ≤ 20
structure BlLim (m : Nat) (b : BlR) : Prop where
  ins : b.ins.length ≤ m
  each : ∀ x ∈ b.ins, InLim x
structure FuGr (m : Nat) (f : FuR) : Prop where
  blocks : f.blocks.length ≤ 20
  each : ∀ b ∈ f.blocks, BlLim m b
structure PrGr (m : Nat) (p : PrR) : Prop where
  types : p.types.length ≤ 20
  parts : ∀ t ∈ p.types, t.parts.length ≤ 20
  funs : p.funs.length ≤ 10
  each : ∀ f ∈ p.funs, FuGr m f
theorem FuGr.lim {m : Nat} {f : FuR} (h : FuGr m f) (hm : m ≤ 1000) : FuLim f :=
  ⟨Nat.le_trans h.blocks (by omega), fun b hb => Nat.le_trans (h.each b hb).ins (by omega), fun b hb x hx => Nat.le_trans ((h.each b hb).each x hx).args (by omega), fun b hb x hx => Nat.le_trans ((h.each b hb).each x hx).froms (by omega)⟩
theorem PrGr.lim {m : Nat} {p : PrR} (h : PrGr m p) (hm : m ≤ 1000) : PrLim p :=
  ⟨fun t ht => Nat.le_trans (h.parts t ht) (by omega), fun f hf => (h.each f hf).lim hm, Nat.le_trans h.funs (by omega)⟩
theorem all_at {α : Type} [Inhabited α] {P : α → Prop} {l : List α} {k : Nat} (h : ∀ j, j < k → P (l.getD j default)) (hk : l.length ≤ k) : ∀ x ∈ l, P x := by
  intro x hx
  obtain ⟨i, hi, rfl⟩ := List.mem_iff_getElem.1 hx
  have := h i (by omega)
  rwa [getD_lt l hi] at this
theorem all_next {α : Type} [Inhabited α] {P : α → Prop} {l : List α} {k : Nat} (h : ∀ j, j < k → P (l.getD j default)) (hk : P (l.getD k default)) : ∀ j, j < k + 1 → P (l.getD j default) := by
  intro j hj
  by_cases e : j = k
  · rw [e]; exact hk
  · exact h j (by omega)
theorem great_few {rows : List TyR} (h : greatT rows = false) : rows.length ≤ 20 ∧ ∀ t ∈ rows, t.parts.length ≤ 20 := by
  unfold greatT at h
  rw [Bool.or_eq_false_iff, Bool.not_eq_false', decide_eq_false_iff_not] at h
  refine ⟨by omega, fun t ht => ?_⟩
  have h1 := h.1
  rw [List.take_of_length_le (by omega), List.all_eq_true] at h1
  simpa using h1 t ht
def SomeGreat (m : Nat) (p : PrR) (w : World) (e : Ending) (w' : World) : Prop := ∃ g, e = .returned (.bool g) ∧ (g = false → PrGr m p) ∧ Below w.heap.size w w'
end Go.Proofs.YtbffebcjimhapaaDoor
namespace Go.Proofs.YtbffebcjimhapaaDoor
set_option linter.unusedVariables false
set_option linter.unusedSimpArgs false
open Go.ChangeShapes Go.WideShapes Go.ChangeAt Go.RowKit

def InR.cells (x : InR) : Array Value := #[.int .u8 x.op, .int .i64 x.ty, .int .i64 x.a, .int .i64 x.b, .int .i64 x.n, .slice x.aa x.args.length x.ac, .slice x.fa x.from_.length x.fc]
def chI : InR := ⟨1, 0, 0, 0, 5, none, 0, [], none, 0, []⟩
def chJ : InR := ⟨4, 0, 0, 0, 0, none, 0, [], none, 0, []⟩
/-- The program that the chapter's becomes by another second instruction, another arrow, another type, no blocks. -/
def chapB (g : Nat) (x : InR) (tgt : Int) : List BlR := [⟨some ⟨g + 1, 0, none⟩, 1, [chI], 1, 0, 1, 0⟩, ⟨some ⟨g + 3, 0, none⟩, 1, [x], 3, 1, tgt, 0⟩]
def chapR (g : Nat) (x : InR) (tgt sig : Int) (two : Bool) : PrR :=
  ⟨some ⟨g + 5, 0, none⟩, 2, [⟨1, 0, 0, none, 0, []⟩, ⟨3, 0, 0, none, 0, []⟩], some ⟨g + 7, 0, none⟩, 1, [⟨sig, bif two then some ⟨g + 6, 0, none⟩ else none, bif two then 2 else 0, bif two then chapB g x tgt else []⟩]⟩
def chapP (x : PIns) (tgt sig : Int) (two : Bool) : PProg :=
  ⟨[⟨1, 0, 0, []⟩, ⟨3, 0, 0, []⟩], [⟨sig, bif two then [⟨[⟨1, 0, 0, 0, 5, [], []⟩], ⟨1, 0, 1, 0⟩⟩, ⟨[x], ⟨3, 1, tgt, 0⟩⟩] else []⟩]⟩
theorem chap_data (g : Nat) (x : InR) (tgt sig : Int) (two : Bool) : (chapR g x tgt sig two).data = chapP x.data tgt sig two := by
  cases two <;> rfl
structure Chap (w : World) (g : Nat) (x : InR) (tgt sig : Int) (two : Bool) : Prop where
  b1 : Blk w (g + 1) 39 chI.cells
  b3 : Blk w (g + 3) 39 x.cells
  b5 : Blk w (g + 5) 41 #[.int .u8 1, .int .i64 0, .int .i64 0, .slice none 0 0, .int .u8 3, .int .i64 0, .int .i64 0, .slice none 0 0]
  b6 : Blk w (g + 6) 36 #[.slice (some ⟨g + 1, 0, none⟩) 1 1, .int .u8 1, .int .i64 0, .int .i64 1, .int .i64 0, .slice (some ⟨g + 3, 0, none⟩) 1 1, .int .u8 3, .int .i64 1, .int .i64 tgt, .int .i64 0]
  b7 : Blk w (g + 7) 31 #[.int .i64 sig, bif two then .slice (some ⟨g + 6, 0, none⟩) 2 2 else .slice none 0 0]
theorem Chap.on {w w' : World} {g : Nat} {x : InR} {tgt sig : Int} {two : Bool} (h : Chap w g x tgt sig two) (hb : Below w.heap.size w w') : Chap w' g x tgt sig two :=
  ⟨h.b1.beneath hb, h.b3.beneath hb, h.b5.beneath hb, h.b6.beneath hb, h.b7.beneath hb⟩
theorem ints_none {w : World} {B : Nat} : IntsAt w 0 B none [] := fun h => absurd h (Nat.lt_irrefl 0)
theorem hdr_none : Hdr none 0 0 := ⟨Nat.le_refl _, by unfold maxLen; omega, fun _ => ⟨rfl, rfl⟩⟩
theorem hdr_some (a : Addr) (n : Nat) (h : n ≤ 1000) : Hdr (some a) n n := ⟨Nat.le_refl _, by unfold maxLen; omega, fun e => by cases e⟩
theorem cells_one {w : World} {g s : Nat} {t : TypeId} {cs : Array Value} {f : Nat → Nat → Value} (h : Blk w g t cs) (n : Nat) (hf : ∀ i, i < n → ∀ j, j < s → cs[0 + i * s + j]? = some (f i j)) : CellsAt w 0 w.heap.size (some ⟨g, 0, none⟩) s n f :=
  fun _ => ⟨g, 0, rfl, Nat.zero_le _, h.lt, fun i hi j hj => (h.cells _).trans (hf i hi j hj)⟩
theorem InsAt.one {w : World} {g : Nat} {x : InR} (h : Blk w g 39 x.cells) (hx : x.Ok w) : InsAt w (some ⟨g, 0, none⟩) 1 [x] := by
  refine ⟨hdr_some _ _ (by show 1 ≤ 1000; omega), cells_one h 1 ?_, ?_⟩
  · intro i hi j hj
    obtain rfl : i = 0 := by omega
    have : j = 0 ∨ j = 1 ∨ j = 2 ∨ j = 3 ∨ j = 4 ∨ j = 5 ∨ j = 6 := by omega
    rcases this with rfl | rfl | rfl | rfl | rfl | rfl | rfl <;> rfl
  · intro r hr
    rw [List.mem_singleton] at hr
    rw [hr]; exact hx
theorem chI_ok (w : World) : chI.Ok w := ⟨by decide, hdr_none, ints_none, hdr_none, ints_none⟩
theorem chJ_ok (w : World) : chJ.Ok w := ⟨by decide, hdr_none, ints_none, hdr_none, ints_none⟩
theorem Chap.types {w : World} {g : Nat} {x : InR} {tgt sig : Int} {two : Bool} (h : Chap w g x tgt sig two) : TabIn w (some ⟨g + 5, 0, none⟩) 2 [⟨1, 0, 0, none, 0, []⟩, ⟨3, 0, 0, none, 0, []⟩] := by
  refine ⟨hdr_some _ _ (by decide), cells_one h.b5 2 ?_, ?_⟩
  · intro i hi j hj
    have h1 : i = 0 ∨ i = 1 := by omega
    have h2 : j = 0 ∨ j = 1 ∨ j = 2 ∨ j = 3 := by omega
    rcases h1 with rfl | rfl <;> rcases h2 with rfl | rfl | rfl | rfl <;> rfl
  · intro r hr
    simp only [List.mem_cons, List.not_mem_nil, or_false] at hr
    rcases hr with rfl | rfl <;> exact ⟨by decide, hdr_none, ints_none⟩
theorem Chap.blocks {w : World} {g : Nat} {x : InR} {tgt sig : Int} {two : Bool} (h : Chap w g x tgt sig two) (hx : x.Ok w) : BlksAt w (some ⟨g + 6, 0, none⟩) 2 (chapB g x tgt) := by
  refine ⟨hdr_some _ _ (show 2 ≤ 1000 by omega), cells_one h.b6 2 ?_, ?_⟩
  · intro i hi j hj
    have h1 : i = 0 ∨ i = 1 := by omega
    have h2 : j = 0 ∨ j = 1 ∨ j = 2 ∨ j = 3 ∨ j = 4 := by omega
    rcases h1 with rfl | rfl <;> rcases h2 with rfl | rfl | rfl | rfl | rfl <;> rfl
  · intro r hr
    unfold chapB at hr
    simp only [List.mem_cons, List.not_mem_nil, or_false] at hr
    rcases hr with rfl | rfl
    · exact ⟨show 1 ≤ 255 by omega, InsAt.one h.b1 (chI_ok w)⟩
    · exact ⟨show 3 ≤ 255 by omega, InsAt.one h.b3 hx⟩
theorem Chap.prog {w : World} {g : Nat} {x : InR} {tgt sig : Int} {two : Bool} (h : Chap w g x tgt sig two) (hx : x.Ok w) : ProgIn w (chapR g x tgt sig two) := by
  refine ⟨h.types, hdr_some _ _ (show 1 ≤ 1000 by omega), ?_, ?_⟩
  · refine cells_one h.b7 1 ?_
    intro i hi j hj
    obtain rfl : i = 0 := by omega
    have h2 : j = 0 ∨ j = 1 := by omega
    rcases h2 with rfl | rfl <;> cases two <;> rfl
  · intro r hr
    rw [show (chapR g x tgt sig two).funs = [⟨sig, bif two then some ⟨g + 6, 0, none⟩ else none, bif two then 2 else 0, bif two then chapB g x tgt else []⟩] from rfl, List.mem_singleton] at hr
    subst hr
    refine ⟨?_⟩
    cases two with
    | true => exact h.blocks hx
    | false => exact ⟨hdr_none, fun h => absurd h (Nat.lt_irrefl 0), fun r hr => absurd hr List.not_mem_nil⟩
theorem chap_lim {g : Nat} {x : InR} {tgt sig : Int} {two : Bool} (h1 : x.args.length ≤ 1000) (h2 : x.from_.length ≤ 1000) : PrLim (chapR g x tgt sig two) := by
  refine ⟨?_, ?_, show 1 ≤ 20000 by omega⟩
  · intro t ht
    rw [show (chapR g x tgt sig two).types = [⟨1, 0, 0, none, 0, []⟩, ⟨3, 0, 0, none, 0, []⟩] from rfl] at ht
    simp only [List.mem_cons, List.not_mem_nil, or_false] at ht
    rcases ht with rfl | rfl <;> decide
  · intro f hf
    rw [show (chapR g x tgt sig two).funs = [⟨sig, bif two then some ⟨g + 6, 0, none⟩ else none, bif two then 2 else 0, bif two then chapB g x tgt else []⟩] from rfl, List.mem_singleton] at hf
    subst hf
    cases two with
    | false => exact ⟨by show 0 ≤ 20000; omega, fun b hb => absurd hb List.not_mem_nil, fun b hb => absurd hb List.not_mem_nil, fun b hb => absurd hb List.not_mem_nil⟩
    | true =>
      refine ⟨by show 2 ≤ 20000; omega, ?_, ?_, ?_⟩
      all_goals
        intro b hb
        replace hb : b ∈ chapB g x tgt := hb
        unfold chapB at hb
        simp only [List.mem_cons, List.not_mem_nil, or_false] at hb
      · rcases hb with rfl | rfl <;> (show 1 ≤ 1000000; omega)
      · intro y hy
        rcases hb with rfl | rfl
        · replace hy : y ∈ [chI] := hy
          rw [List.mem_singleton] at hy; subst hy; decide
        · replace hy : y ∈ [x] := hy
          rw [List.mem_singleton] at hy; subst hy; exact h1
      · intro y hy
        rcases hb with rfl | rfl
        · replace hy : y ∈ [chI] := hy
          rw [List.mem_singleton] at hy; subst hy; decide
        · replace hy : y ∈ [x] := hy
          rw [List.mem_singleton] at hy; subst hy; exact h2
def chapV (g : Nat) : Value := .agg #[.slice (some ⟨g + 5, 0, none⟩) 2 2, .slice (some ⟨g + 7, 0, none⟩) 1 1]
theorem chapV_val (g : Nat) (x : InR) (tgt sig : Int) (two : Bool) : (chapR g x tgt sig two).val = chapV g := rfl
theorem heap_far {w : World} {o : Obj} {g : Nat} {t : TypeId} {cs : Array Value} (h : Blk w g t cs) : Blk (w.alloc o) g t cs := h.alloc o
theorem blk_at (w : World) (t : TypeId) (cs : Array Value) (g : Nat) (h : w.heap.size = g) : Blk (w.alloc (.cells cs t)) g t cs := h ▸ Blk.new w t cs
theorem ch_ok : checkP (chapP chJ.data 0 1 true) = 0 := by decide
theorem ch_regs : regsE (chapP chJ.data 0 1 true) 0 = (2, 0) := by decide
theorem ch_place : placeE (chapP chJ.data 0 1 true) 0 1 = (1, 0, 0) := by decide
end Go.Proofs.YtbffebcjimhapaaDoor
namespace Go.Proofs.YtbffebcjimhapaaDoor
set_option linter.unusedVariables false
set_option linter.unusedSimpArgs false
open Go.ChangeShapes Go.WideShapes Go.ChangeAt Go.RowKit

/-- Two instructions' boxes. -/
structure Two (w0 w : World) (t : TypeId) (gx gy : Nat) (x y : Array Value) : Prop where
  x : Blk w gx t x
  y : Blk w gy t y
  below : Below w0.heap.size w0 w
theorem Two.on {w0 w w' : World} {t : TypeId} {gx gy : Nat} {x y : Array Value} (h : Two w0 w t gx gy x y) (hb : Below w.heap.size w w') : Two w0 w' t gx gy x y := ⟨h.x.beneath hb, h.y.beneath hb, h.below.trans (hb.mono h.below.size)⟩
def insD (l : List InR) : List PIns := l.map InR.data
theorem insD_len (l : List InR) : (insD l).length = l.length := List.length_map ..
theorem insD_at {l : List InR} {k : Nat} (h : k < l.length) : (insD l).getD k default = (l.getD k default).data := map_getD InR.data l h
theorem same_bool {a b : Int} (h : a = b) : (a != b) = false := by rw [h]; simp
theorem same_boolN {a b : Nat} (h : a = b) : ((a : Int) != (b : Int)) = false := by rw [h]; simp
theorem ne_bool {a b : Int} (h : a ≠ b) : (a != b) = true := bne_iff_ne.2 h
theorem ne_boolN {a b : Nat} (h : a ≠ b) : ((a : Int) != (b : Int)) = true := bne_iff_ne.2 (by omega)
theorem sames_is {w : World} {A A' : Option Addr} {c c' : Nat} {xs ys : List Int} (hh : Hdr A xs.length c) (hx : IntsAt w 0 w.heap.size A xs) (hh' : Hdr A' ys.length c') (hy : IntsAt w 0 w.heap.size A' ys) {b : Bool} (hb : decide (xs = ys) = b) :
    Calls Tryd.prog 67 #[.slice A xs.length c, .slice A' ys.length c'] w fun e w' => e = .returned (.bool b) ∧ Below w.heap.size w w' := hb ▸ sameInts_any hh hx hh' hy
set_option maxRecDepth 100000 in
set_option maxHeartbeats 6400000 in
theorem rsameIns_any {w : World} {A A' : Option Addr} {c c' : Nat} {xs ys : List InR} (h : InsAt w A c xs) (h' : InsAt w A' c' ys) :
    Calls Tryd.prog 49 #[.slice A xs.length c, .slice A' ys.length c'] w fun e w' => e = .returned (.bool (decide (insD xs = insD ys))) ∧ Below w.heap.size w w' := by
  have hl := h.hdr.cle
  have hl' := h'.hdr.cle
  have HX := Lib.hid h
  have HY := Lib.hid h'
  clear h h'
  by_cases hlen : xs.length = ys.length
  · have q : (xs.length : Int) = ys.length := by omega
    clear hlen
    go_enter Tryd.func49, Tryd.ntmps49
    go_wp2_with fail
    go_loopw [5] (fun i wr => ∃ k : Nat, k ≤ xs.length ∧ i = .int .i64 k ∧ Hid ((insD xs).take k = (insD ys).take k) ∧ Hid (Below w.heap.size w wr)) (fun i _ => xs.length - (intOf i).toNat)
    case atStart => exact ⟨0, Nat.zero_le _, rfl, Lib.hid rfl, Lib.hid (Below.refl _ _)⟩
    case round =>
      obtain ⟨k, hk, rfl, HT, HB⟩ := hrel
      by_cases hlt : k < xs.length
      · have hlt' : k < ys.length := by omega
        obtain ⟨b, off, r, rfl, hb, ⟨d0, d1, d2, d3, d4, d5, d6⟩, hr, HE⟩ := (HX.out.on HB.out).elem hlt
        obtain ⟨b', off', r', rfl, hb', ⟨d0', d1', d2', d3', d4', d5', d6'⟩, hr', HE'⟩ := (HY.out.on HB.out).elem hlt'
        have HNE : Hid (r.data ≠ r'.data → insD xs ≠ insD ys) := Lib.hid (fun hn => ne_of_getD (d := default) (k := k) (by rw [insD_at hlt, insD_at hlt', HE.out, HE'.out]; exact hn))
        have HEQ : Hid (r.data = r'.data → (insD xs).take (k + 1) = (insD ys).take (k + 1)) := Lib.hid (fun he => take_eq_succ (d := default) HT.out (by rw [insD_len]; exact hlt) (by rw [insD_len]; exact hlt') (by rw [insD_at hlt, insD_at hlt', HE.out, HE'.out]; exact he))
        have hk0 : (0 : Int) ≤ (k : Int) := Int.natCast_nonneg _
        have hk1 : (k : Int) < (xs.length : Int) := by omega
        have hk2 : (k : Int) < (ys.length : Int) := by omega
        have HLT := Lib.hid hlt
        have HR := Lib.hid hr
        have HR' := Lib.hid hr'
        obtain ⟨op, ty, xa, xb, xn, aa, ac, args, fa, fc, from_⟩ := r
        obtain ⟨op', ty', xa', xb', xn', aa', ac', args', fa', fc', from_'⟩ := r'
        dsimp only at *
        have hal := hr.ahdr.cle
        have hfl := hr.fhdr.cle
        have hal' := hr'.ahdr.cle
        have hfl' := hr'.fhdr.cle
        have n1 : wr.heap.size ≠ b := by omega
        have n2 : wr.heap.size ≠ b' := by omega
        have n3 : wr.heap.size + 1 ≠ b := by omega
        have n4 : wr.heap.size + 1 ≠ b' := by omega
        clear hr hr' hlt hlt' HE HE'
        go_wp2_with fail
        go_upto_region 7 with fail
        go_cut [6, 7] (fun x y wx => ∃ gx gy : Nat, x = .pointer (some ⟨gx, 0, none⟩) ∧ y = .pointer (some ⟨gy, 0, none⟩) ∧ Hid (Two wr wx 39 gx gy #[.int .u8 op, .int .i64 ty, .int .i64 xa, .int .i64 xb, .int .i64 xn, .slice aa args.length ac, .slice fa from_.length fc] #[.int .u8 op', .int .i64 ty', .int .i64 xa', .int .i64 xb', .int .i64 xn', .slice aa' args'.length ac', .slice fa' from_'.length fc']))
        case first =>
          go_region_held3 (fun w' => w'.cell? ⟨b, off + k * 7, none⟩ = some (.int .u8 op) ∧ w'.cell? ⟨b, off + k * 7 + 1, none⟩ = some (.int .i64 ty) ∧ w'.cell? ⟨b, off + k * 7 + 2, none⟩ = some (.int .i64 xa) ∧ w'.cell? ⟨b, off + k * 7 + 3, none⟩ = some (.int .i64 xb) ∧ w'.cell? ⟨b, off + k * 7 + 4, none⟩ = some (.int .i64 xn) ∧ w'.cell? ⟨b, off + k * 7 + 5, none⟩ = some (.slice aa args.length ac) ∧ w'.cell? ⟨b, off + k * 7 + 6, none⟩ = some (.slice fa from_.length fc) ∧ w'.cell? ⟨b', off' + k * 7, none⟩ = some (.int .u8 op') ∧ w'.cell? ⟨b', off' + k * 7 + 1, none⟩ = some (.int .i64 ty') ∧ w'.cell? ⟨b', off' + k * 7 + 2, none⟩ = some (.int .i64 xa') ∧ w'.cell? ⟨b', off' + k * 7 + 3, none⟩ = some (.int .i64 xb') ∧ w'.cell? ⟨b', off' + k * 7 + 4, none⟩ = some (.int .i64 xn') ∧ w'.cell? ⟨b', off' + k * 7 + 5, none⟩ = some (.slice aa' args'.length ac') ∧ w'.cell? ⟨b', off' + k * 7 + 6, none⟩ = some (.slice fa' from_'.length fc')) (go_keep) (fail)
          all_goals
            go_wp2_with fail
            go_meet
            first
              | exact ⟨_, _, rfl, rfl, Lib.hid ⟨((Blk.new _ _ _).alloc _).drew, (Blk.new2 _ _ _ _).drew, (((Below.refl _ _).alloc (Nat.le_refl _) _).alloc (by rw [World.size_alloc]; omega) _).drew⟩⟩
              | exact ⟨_, _, rfl, rfl, Lib.hid ⟨(Blk.new2 _ _ _ _).drew, ((Blk.new _ _ _).alloc _).drew, (((Below.refl _ _).alloc (Nat.le_refl _) _).alloc (by rw [World.size_alloc]; omega) _).drew⟩⟩
        case rest =>
          clear d0 d1 d2 d3 d4 d5 d6 d0' d1' d2' d3' d4' d5' d6' n1 n2 n3 n4 hb hb'
          obtain ⟨gx, gy, rfl, rfl, HW⟩ := hcut
          have x0 := HW.out.x.cells 0; have x1 := HW.out.x.cells 1; have x2 := HW.out.x.cells 2; have x3 := HW.out.x.cells 3; have x4 := HW.out.x.cells 4; have x5 := HW.out.x.cells 5; have x6 := HW.out.x.cells 6; have y0 := HW.out.y.cells 0; have y1 := HW.out.y.cells 1; have y2 := HW.out.y.cells 2; have y3 := HW.out.y.cells 3; have y4 := HW.out.y.cells 4; have y5 := HW.out.y.cells 5; have y6 := HW.out.y.cells 6
          by_cases e0 : op = op'
          · subst e0
            by_cases e1 : ty = ty'
            · subst e1
              by_cases e2 : xa = xa'
              · subst e2
                by_cases e3 : xb = xb'
                · subst e3
                  by_cases e4 : xn = xn'
                  · subst e4
                    obtain ⟨q5, hq5⟩ : ∃ q, decide (args = args') = q := ⟨_, rfl⟩
                    have HQ5 := Lib.hid hq5
                    clear hq5
                    have HB2 := Lib.hid (HB.out.trans (HW.out.below.mono HB.out.size))
                    go_wp2_with fail
                    refine (sames_is HR.out.ahdr (HR.out.args.up HW.out.below) HR'.out.ahdr (HR'.out.args.up HW.out.below) HQ5.out).mono ?_
                    rintro e w2 ⟨rfl, hb2⟩
                    have HW2 := Lib.hid (HW.out.on hb2)
                    clear hb2 x0 x1 x2 x3 x4 x5 x6 y0 y1 y2 y3 y4 y5 y6
                    have x0 := HW2.out.x.cells 0; have x1 := HW2.out.x.cells 1; have x2 := HW2.out.x.cells 2; have x3 := HW2.out.x.cells 3; have x4 := HW2.out.x.cells 4; have x5 := HW2.out.x.cells 5; have x6 := HW2.out.x.cells 6; have y0 := HW2.out.y.cells 0; have y1 := HW2.out.y.cells 1; have y2 := HW2.out.y.cells 2; have y3 := HW2.out.y.cells 3; have y4 := HW2.out.y.cells 4; have y5 := HW2.out.y.cells 5; have y6 := HW2.out.y.cells 6
                    cases q5 with
                    | false =>
                      have HN := Lib.hid (HNE.out (fun h => by injection h with _ _ _ _ _ h _; exact of_decide_eq_false HQ5.out h))
                      go_wp2_with fail
                      go_ret
                      exact ⟨ret_bool (by rw [decide_eq_false HN.out]), HB.out.trans (HW2.out.below.mono HB.out.size)⟩
                    | true =>
                      obtain ⟨q6, hq6⟩ : ∃ q, decide (from_ = from_') = q := ⟨_, rfl⟩
                      have HQ6 := Lib.hid hq6
                      clear hq6
                      go_wp2_with fail
                      refine (sames_is HR.out.fhdr (HR.out.from_.up HW2.out.below) HR'.out.fhdr (HR'.out.from_.up HW2.out.below) HQ6.out).mono ?_
                      rintro e w3 ⟨rfl, hb3⟩
                      have HW3 := Lib.hid (HW2.out.on hb3)
                      clear hb3 x0 x1 x2 x3 x4 x5 x6 y0 y1 y2 y3 y4 y5 y6
                      cases q6 with
                      | false =>
                        have HN := Lib.hid (HNE.out (fun h => by injection h with _ _ _ _ _ _ h; exact of_decide_eq_false HQ6.out h))
                        go_wp2_with fail
                        go_ret
                        exact ⟨ret_bool (by rw [decide_eq_false HN.out]), HB.out.trans (HW3.out.below.mono HB.out.size)⟩
                      | true =>
                        have HE2 := Lib.hid (HEQ.out (by rw [InR.data, InR.data]; dsimp only; rw [of_decide_eq_true HQ5.out, of_decide_eq_true HQ6.out]))
                        have HB4 := Lib.hid (HB.out.trans (HW3.out.below.mono HB.out.size))
                        go_wp2_with fail
                        go_roundw
                        case rel => exact ⟨k + 1, by have := HLT.out; omega, by go_num, HE2, HB4⟩
                        case measure => simp [intOf]; have := HLT.out; omega
                  · have z4 := ne_bool e4
                    have E4 := Lib.hid e4
                    clear e4
                    have HN := Lib.hid (HNE.out (fun h => by injection h with _ _ _ _ h _ _; exact E4.out h))
                    go_wp2_with fail
                    go_ret
                    exact ⟨ret_bool (by rw [decide_eq_false HN.out]), HB.out.trans (HW.out.below.mono HB.out.size)⟩
                · have z3 := ne_bool e3
                  have E3 := Lib.hid e3
                  clear e3
                  have HN := Lib.hid (HNE.out (fun h => by injection h with _ _ _ h _ _ _; exact E3.out h))
                  go_wp2_with fail
                  go_ret
                  exact ⟨ret_bool (by rw [decide_eq_false HN.out]), HB.out.trans (HW.out.below.mono HB.out.size)⟩
              · have z2 := ne_bool e2
                have E2 := Lib.hid e2
                clear e2
                have HN := Lib.hid (HNE.out (fun h => by injection h with _ _ h _ _ _ _; exact E2.out h))
                go_wp2_with fail
                go_ret
                exact ⟨ret_bool (by rw [decide_eq_false HN.out]), HB.out.trans (HW.out.below.mono HB.out.size)⟩
            · have z1 := ne_bool e1
              have E1 := Lib.hid e1
              clear e1
              have HN := Lib.hid (HNE.out (fun h => by injection h with _ h _ _ _ _ _; exact E1.out h))
              go_wp2_with fail
              go_ret
              exact ⟨ret_bool (by rw [decide_eq_false HN.out]), HB.out.trans (HW.out.below.mono HB.out.size)⟩
          · have z0 := ne_boolN e0
            have E0 := Lib.hid e0
            clear e0
            have HN := Lib.hid (HNE.out (fun h => by injection h with h _ _ _ _ _ _; exact E0.out h))
            go_wp2_with fail
            go_ret
            exact ⟨ret_bool (by rw [decide_eq_false HN.out]), HB.out.trans (HW.out.below.mono HB.out.size)⟩
      · go_wp2_with fail
        go_ret
        exact ⟨ret_bool (by rw [decide_eq_true]; have := HT.out; rwa [List.take_of_length_le (by rw [insD_len]; omega), List.take_of_length_le (by rw [insD_len]; omega)] at this), HB.out⟩
  · have q : ¬ (xs.length : Int) = ys.length := by omega
    have HN : Hid (insD xs ≠ insD ys) := Lib.hid (fun h => hlen (by rw [← insD_len xs, h, insD_len]))
    clear hlen
    go_enter Tryd.func49, Tryd.ntmps49
    go_wp2_with fail
    go_ret
    exact ⟨ret_bool (by rw [decide_eq_false HN.out]), Below.refl _ _⟩
end Go.Proofs.YtbffebcjimhapaaDoor
namespace Go.Proofs.YtbffebcjimhapaaDoor
set_option linter.unusedVariables false
set_option linter.unusedSimpArgs false
open Go.ChangeShapes Go.WideShapes Go.ChangeAt Go.RowKit

theorem seqEnd4 (k k' : Nat) (a t e a' t' e' : Int) (w : World) : (Op.equalIn 10000 34 (.agg #[.int .u8 k, .int .i64 a, .int .i64 t, .int .i64 e]) (.agg #[.int .u8 k', .int .i64 a', .int .i64 t', .int .i64 e'])).run Tryd.prog w = .ok (decide ((⟨k, a, t, e⟩ : PEnd) = ⟨k', a', t', e'⟩)) w := by
  have u0 := Tryd.underlying5
  have u2 := Tryd.underlying3
  have hS : Tryd.prog.underlying 34 = some (.struct (Tryd.prog.fieldsOf 34)) := by kernel_rfl
  rw [show (10000 : Nat) = 9999 + 1 from rfl, run_equalIn_agg w 9999 34 _ _ hS (by kernel_rfl)]
  simp only [Program.fieldsOf, Tryd.underlying34]
  go_simp
  by_cases h1 : k = k' <;> by_cases h2 : a = a' <;> by_cases h3 : t = t' <;> by_cases h4 : e = e' <;> simp [h1, h2, h3, h4] <;> omega
theorem seqEnd_is {k k' : Nat} {a t e a' t' e' : Int} {b : Bool} (h : decide ((⟨k, a, t, e⟩ : PEnd) = ⟨k', a', t', e'⟩) = b) (w : World) : (Op.equalIn 10000 34 (.agg #[.int .u8 k, .int .i64 a, .int .i64 t, .int .i64 e]) (.agg #[.int .u8 k', .int .i64 a', .int .i64 t', .int .i64 e'])).run Tryd.prog w = .ok b w := h ▸ seqEnd4 k k' a t e a' t' e' w
def blkD (l : List BlR) : List PBlk := l.map BlR.data
theorem blkD_len (l : List BlR) : (blkD l).length = l.length := List.length_map ..
theorem blkD_at {l : List BlR} {k : Nat} (h : k < l.length) : (blkD l).getD k default = (l.getD k default).data := map_getD BlR.data l h
theorem rsameIns_is {w : World} {A A' : Option Addr} {c c' : Nat} {xs ys : List InR} (h : InsAt w A c xs) (h' : InsAt w A' c' ys) {b : Bool} (hb : decide (insD xs = insD ys) = b) :
    Calls Tryd.prog 49 #[.slice A xs.length c, .slice A' ys.length c'] w fun e w' => e = .returned (.bool b) ∧ Below w.heap.size w w' := hb ▸ rsameIns_any h h'
set_option maxRecDepth 100000 in
set_option maxHeartbeats 3200000 in
theorem rsameBlocks_any {w : World} {A A' : Option Addr} {c c' : Nat} {xs ys : List BlR} (h : BlksAt w A c xs) (h' : BlksAt w A' c' ys) :
    Calls Tryd.prog 27 #[.slice A xs.length c, .slice A' ys.length c'] w fun e w' => e = .returned (.bool (decide (blkD xs = blkD ys))) ∧ Below w.heap.size w w' := by
  have hl := h.hdr.cle
  have hl' := h'.hdr.cle
  have HX := Lib.hid h
  have HY := Lib.hid h'
  clear h h'
  by_cases hlen : xs.length = ys.length
  · have q : (xs.length : Int) = ys.length := by omega
    clear hlen
    go_enter Tryd.func27, Tryd.ntmps27
    go_wp2_with fail
    go_loopw [5] (fun i wr => ∃ k : Nat, k ≤ xs.length ∧ i = .int .i64 k ∧ Hid ((blkD xs).take k = (blkD ys).take k) ∧ Hid (Below w.heap.size w wr)) (fun i _ => xs.length - (intOf i).toNat)
    case atStart => exact ⟨0, Nat.zero_le _, rfl, Lib.hid rfl, Lib.hid (Below.refl _ _)⟩
    case round =>
      obtain ⟨k, hk, rfl, HT, HB⟩ := hrel
      by_cases hlt : k < xs.length
      · have hlt' : k < ys.length := by omega
        obtain ⟨b, off, r, rfl, hb, ⟨d0, d1, d2, d3, d4⟩, hr, HE⟩ := (HX.out.on HB.out).elem hlt
        obtain ⟨b', off', r', rfl, hb', ⟨d0', d1', d2', d3', d4'⟩, hr', HE'⟩ := (HY.out.on HB.out).elem hlt'
        have HNE : Hid (r.data ≠ r'.data → blkD xs ≠ blkD ys) := Lib.hid (fun hn => ne_of_getD (d := default) (k := k) (by rw [blkD_at hlt, blkD_at hlt', HE.out, HE'.out]; exact hn))
        have HEQ : Hid (r.data = r'.data → (blkD xs).take (k + 1) = (blkD ys).take (k + 1)) := Lib.hid (fun he => take_eq_succ (d := default) HT.out (by rw [blkD_len]; exact hlt) (by rw [blkD_len]; exact hlt') (by rw [blkD_at hlt, blkD_at hlt', HE.out, HE'.out]; exact he))
        have hk0 : (0 : Int) ≤ (k : Int) := Int.natCast_nonneg _
        have hk1 : (k : Int) < (xs.length : Int) := by omega
        have hk2 : (k : Int) < (ys.length : Int) := by omega
        have HLT := Lib.hid hlt
        have HR := Lib.hid hr
        have HR' := Lib.hid hr'
        obtain ⟨ia, ic, ins, kd, ea, et, el⟩ := r
        obtain ⟨ia', ic', ins', kd', ea', et', el'⟩ := r'
        dsimp only at *
        obtain ⟨z, hz⟩ : ∃ z, decide (insD ins = insD ins') = z := ⟨_, rfl⟩
        have HC := Lib.hid (fun W (hw : Below wr.heap.size wr W) => rsameIns_is (HR.out.ins.on hw) (HR'.out.ins.on hw) hz)
        have HZ := Lib.hid hz
        clear hr hr' hlt hlt' HE HE' hz
        cases hq : decide ((⟨kd, ea, et, el⟩ : PEnd) = ⟨kd', ea', et', el'⟩) with
        | false =>
          have qe := seqEnd_is hq
          have HQ := Lib.hid hq
          have HN := Lib.hid (HNE.out (fun h => by injection h with _ h; exact of_decide_eq_false HQ.out h))
          clear hq
          go_wp2_with fail
          refine wp_region_off (by kernel_rfl) (by kernel_rfl) ?_
          rintro W rfl
          have oc1 := fun m => Off.at d1 m
          have oc2 := fun m => Off.at d2 m
          have oc3 := fun m => Off.at d3 m
          have oc4 := fun m => Off.at d4 m
          have pc1 := fun m => Off.at d1' m
          have pc2 := fun m => Off.at d2' m
          have pc3 := fun m => Off.at d3' m
          have pc4 := fun m => Off.at d4' m
          repeat (go_big_quiet_step (fail))
          refine wpQuiet_nil ?_
          intro w2 hw2
          obtain ⟨⟨w2, hb2⟩, rfl⟩ := hw2
          have HB2 := Lib.hid (HB.out.trans (hb2.mono HB.out.size))
          clear hb2 oc1 oc2 oc3 oc4 pc1 pc2 pc3 pc4 d0 d1 d2 d3 d4 d0' d1' d2' d3' d4' qe
          go_wp2_with fail
          go_ret
          exact ⟨ret_bool (by rw [decide_eq_false HN.out]), HB2.out⟩
        | true =>
          have qe := seqEnd_is hq
          have HQ := Lib.hid hq
          clear hq
          cases z
          all_goals
            go_wp2_with fail
            refine wp_region_off (by kernel_rfl) (by kernel_rfl) ?_
            rintro W rfl
            have oc0 := fun m => Off.at d0 m
            have oc1 := fun m => Off.at d1 m
            have oc2 := fun m => Off.at d2 m
            have oc3 := fun m => Off.at d3 m
            have oc4 := fun m => Off.at d4 m
            have pc0 := fun m => Off.at d0' m
            have pc1 := fun m => Off.at d1' m
            have pc2 := fun m => Off.at d2' m
            have pc3 := fun m => Off.at d3' m
            have pc4 := fun m => Off.at d4' m
            repeat (go_big_quiet_step ((go_at_call 49; exact Calls.off (HC.out _ (Off.below _)))))
            refine wpQuiet_nil ?_
            intro w2 hw2
            obtain ⟨⟨w2, hb2⟩, rfl⟩ := hw2
            have HB2 := Lib.hid (HB.out.trans (hb2.mono HB.out.size))
            clear hb2 oc0 oc1 oc2 oc3 oc4 pc0 pc1 pc2 pc3 pc4 d0 d1 d2 d3 d4 d0' d1' d2' d3' d4' qe
            go_wp2_with fail
          · have HN := Lib.hid (HNE.out (fun h => by injection h with h _; exact of_decide_eq_false HZ.out h))
            go_ret
            exact ⟨ret_bool (by rw [decide_eq_false HN.out]), HB2.out⟩
          · have HE2 := Lib.hid (HEQ.out (by
              show (⟨insD ins, ⟨kd, ea, et, el⟩⟩ : PBlk) = ⟨insD ins', ⟨kd', ea', et', el'⟩⟩
              rw [of_decide_eq_true HQ.out, of_decide_eq_true HZ.out]))
            go_roundw
            case rel => exact ⟨k + 1, by have := HLT.out; omega, by go_num, HE2, HB2⟩
            case measure => simp [intOf]; have := HLT.out; omega
      · go_wp2_with fail
        go_ret
        exact ⟨ret_bool (by rw [decide_eq_true]; have := HT.out; rwa [List.take_of_length_le (by rw [blkD_len]; omega), List.take_of_length_le (by rw [blkD_len]; omega)] at this), HB.out⟩
  · have q : ¬ (xs.length : Int) = ys.length := by omega
    have HN : Hid (blkD xs ≠ blkD ys) := Lib.hid (fun h => hlen (by rw [← blkD_len xs, h, blkD_len]))
    clear hlen
    go_enter Tryd.func27, Tryd.ntmps27
    go_wp2_with fail
    go_ret
    exact ⟨ret_bool (by rw [decide_eq_false HN.out]), Below.refl _ _⟩
def funD (l : List FuR) : List PFun := l.map FuR.data
theorem funD_len (l : List FuR) : (funD l).length = l.length := List.length_map ..
theorem funD_at {l : List FuR} {k : Nat} (h : k < l.length) : (funD l).getD k default = (l.getD k default).data := map_getD FuR.data l h
/-- Do two programs tell the same? -/
def sameB (p o : PrR) : Bool := decide (tbl p.types = tbl o.types) && decide (funD p.funs = funD o.funs)
theorem same_data {p o : PrR} : sameB p o = true ↔ p.data = o.data := by
  unfold sameB
  rw [Bool.and_eq_true, decide_eq_true_eq, decide_eq_true_eq]
  constructor
  · rintro ⟨h1, h2⟩
    show (⟨tbl p.types, funD p.funs⟩ : PProg) = ⟨tbl o.types, funD o.funs⟩
    rw [h1, h2]
  · intro h
    have h' : (⟨tbl p.types, funD p.funs⟩ : PProg) = ⟨tbl o.types, funD o.funs⟩ := h
    injection h' with h1 h2
    exact ⟨h1, h2⟩
theorem rsameT_is {w : World} {A A' : Option Addr} {c c' : Nat} {xs ys : List TyR} (h : TabIn w A c xs) (h' : TabIn w A' c' ys) {b : Bool} (hb : decide (tbl xs = tbl ys) = b) :
    Calls Tryd.prog 26 #[.slice A xs.length c, .slice A' ys.length c'] w fun e w' => e = .returned (.bool b) ∧ Below w.heap.size w w' := hb ▸ rsame_any h h'
theorem rsameBlocks_is {w : World} {A A' : Option Addr} {c c' : Nat} {xs ys : List BlR} (h : BlksAt w A c xs) (h' : BlksAt w A' c' ys) {b : Bool} (hb : decide (blkD xs = blkD ys) = b) :
    Calls Tryd.prog 27 #[.slice A xs.length c, .slice A' ys.length c'] w fun e w' => e = .returned (.bool b) ∧ Below w.heap.size w w' := hb ▸ rsameBlocks_any h h'
set_option maxRecDepth 100000 in
set_option maxHeartbeats 3200000 in
theorem rsame6_any {w : World} {p o : PrR} (h : ProgIn w p) (h' : ProgIn w o) :
    Calls Tryd.prog 13 #[p.val, o.val] w fun e w' => e = .returned (.bool (sameB p o)) ∧ Below w.heap.size w w' := by
  have hl := h.funs.hdr.cle
  have hl' := h'.funs.hdr.cle
  have HX := Lib.hid h
  have HY := Lib.hid h'
  obtain ⟨z, hz⟩ : ∃ z, decide (tbl p.types = tbl o.types) = z := ⟨_, rfl⟩
  have HTS := Lib.hid (fun W (hb : Below w.heap.size w W) => rsameT_is (h.on hb).types (h'.on hb).types hz)
  have HZ := Lib.hid hz
  clear h h' hz
  obtain ⟨ta, tc, types, fa, fc, xs⟩ := p
  obtain ⟨ta', tc', types', fa', fc', ys⟩ := o
  unfold PrR.val at *
  dsimp only at *
  have HW : Hid (Two w ((w.alloc (.cells #[.slice ta types.length tc, .slice fa xs.length fc] 25)).alloc (.cells #[.slice ta' types'.length tc', .slice fa' ys.length fc'] 25)) 25 w.heap.size (w.heap.size + 1) #[.slice ta types.length tc, .slice fa xs.length fc] #[.slice ta' types'.length tc', .slice fa' ys.length fc']) :=
    Lib.hid ⟨(Blk.new _ _ _).alloc _, Blk.new2 _ _ _ _, ((Below.refl _ _).alloc (Nat.le_refl _) _).alloc (by rw [World.size_alloc]; omega) _⟩
  by_cases hlen : xs.length = ys.length
  · have q : (xs.length : Int) = ys.length := by omega
    clear hlen
    go_enter Tryd.func13, Tryd.ntmps13
    go_wp2_with fail
    refine (HTS.out _ HW.out.below).mono ?_
    rintro e w1 ⟨rfl, hb1⟩
    have HW1 := Lib.hid (HW.out.on hb1)
    clear hb1
    cases z with
    | false =>
      go_wp2_with fail
      go_ret
      exact ⟨ret_bool (by unfold sameB; rw [HZ.out]; rfl), HW1.out.below⟩
    | true =>
      go_wp2_with fail
      go_loopw [5] (fun i wr => ∃ k : Nat, k ≤ xs.length ∧ i = .int .i64 k ∧ Hid ((funD xs).take k = (funD ys).take k) ∧ Hid (Two w wr 25 w.heap.size (w.heap.size + 1) #[.slice ta types.length tc, .slice fa xs.length fc] #[.slice ta' types'.length tc', .slice fa' ys.length fc'])) (fun i _ => xs.length - (intOf i).toNat)
      case atStart => exact ⟨0, Nat.zero_le _, rfl, Lib.hid rfl, HW1⟩
      case round =>
        obtain ⟨k, hk, rfl, HT, HW2⟩ := hrel
        have HB := Lib.hid HW2.out.below
        have x0 := HW2.out.x.cells 0
        have x1 := HW2.out.x.cells 1
        have y0 := HW2.out.y.cells 0
        have y1 := HW2.out.y.cells 1
        by_cases hlt : k < xs.length
        · have hlt' : k < ys.length := by omega
          obtain ⟨b, off, r, rfl, hb, ⟨d0, d1⟩, hr, HE⟩ := (HX.out.funs.on HB.out).elem hlt
          obtain ⟨b', off', r', rfl, hb', ⟨d0', d1'⟩, hr', HE'⟩ := (HY.out.funs.on HB.out).elem hlt'
          have HNE : Hid (r.data ≠ r'.data → funD xs ≠ funD ys) := Lib.hid (fun hn => ne_of_getD (d := default) (k := k) (by rw [funD_at hlt, funD_at hlt', HE.out, HE'.out]; exact hn))
          have HEQ : Hid (r.data = r'.data → (funD xs).take (k + 1) = (funD ys).take (k + 1)) := Lib.hid (fun he => take_eq_succ (d := default) HT.out (by rw [funD_len]; exact hlt) (by rw [funD_len]; exact hlt') (by rw [funD_at hlt, funD_at hlt', HE.out, HE'.out]; exact he))
          have hk0 : (0 : Int) ≤ (k : Int) := Int.natCast_nonneg _
          have hk1 : (k : Int) < (xs.length : Int) := by omega
          have hk2 : (k : Int) < (ys.length : Int) := by omega
          have HLT := Lib.hid hlt
          have HR := Lib.hid hr
          have HR' := Lib.hid hr'
          obtain ⟨sig, ba, bc, bls⟩ := r
          obtain ⟨sig', ba', bc', bls'⟩ := r'
          dsimp only at *
          obtain ⟨u, hu⟩ : ∃ u, decide (blkD bls = blkD bls') = u := ⟨_, rfl⟩
          have HC := Lib.hid (fun W (hw : Below wr.heap.size wr W) => rsameBlocks_is (HR.out.blocks.on hw) (HR'.out.blocks.on hw) hu)
          have HU := Lib.hid hu
          clear hr hr' hlt hlt' HE HE' hu
          by_cases e0 : sig = sig'
          · subst e0
            cases u
            all_goals
              go_wp2_with fail
              refine wp_region_off (by kernel_rfl) (by kernel_rfl) ?_
              rintro W rfl
              have ox1 := fun m => Off.at x1 m
              have oy1 := fun m => Off.at y1 m
              have oc0 := fun m => Off.at d0 m
              have oc1 := fun m => Off.at d1 m
              have pc0 := fun m => Off.at d0' m
              have pc1 := fun m => Off.at d1' m
              repeat (go_big_quiet_step ((go_at_call 27; exact Calls.off (HC.out _ (Off.below _)))))
              refine wpQuiet_nil ?_
              intro w2 hw2
              obtain ⟨⟨w2, hb2⟩, rfl⟩ := hw2
              have HW3 := Lib.hid (HW2.out.on hb2)
              clear hb2 ox1 oy1 oc0 oc1 pc0 pc1 d0 d1 d0' d1' x0 x1 y0 y1
              go_wp2_with fail
            · have HN := Lib.hid (HNE.out (fun h => by injection h with _ h; exact of_decide_eq_false HU.out h))
              go_ret
              exact ⟨ret_bool (by unfold sameB; rw [decide_eq_false HN.out, Bool.and_false]), HW3.out.below⟩
            · have HE2 := Lib.hid (HEQ.out (by
                show (⟨sig, blkD bls⟩ : PFun) = ⟨sig, blkD bls'⟩
                rw [of_decide_eq_true HU.out]))
              go_roundw
              case rel => exact ⟨k + 1, by have := HLT.out; omega, by go_num, HE2, HW3⟩
              case measure => simp [intOf]; have := HLT.out; omega
          · have ez := ne_bool e0
            have E0 := Lib.hid e0
            clear e0
            have HN := Lib.hid (HNE.out (fun h => by injection h with h _; exact E0.out h))
            go_wp2_with fail
            refine wp_region_off (by kernel_rfl) (by kernel_rfl) ?_
            rintro W rfl
            have ox1 := fun m => Off.at x1 m
            have oy1 := fun m => Off.at y1 m
            have oc0 := fun m => Off.at d0 m
            have oc1 := fun m => Off.at d1 m
            have pc0 := fun m => Off.at d0' m
            have pc1 := fun m => Off.at d1' m
            repeat (go_big_quiet_step (fail))
            refine wpQuiet_nil ?_
            intro w2 hw2
            obtain ⟨⟨w2, hb2⟩, rfl⟩ := hw2
            have HW3 := Lib.hid (HW2.out.on hb2)
            clear hb2 ox1 oy1 oc0 oc1 pc0 pc1 d0 d1 d0' d1' x0 x1 y0 y1
            go_wp2_with fail
            go_ret
            exact ⟨ret_bool (by unfold sameB; rw [decide_eq_false HN.out, Bool.and_false]), HW3.out.below⟩
        · have HE2 : Hid (funD xs = funD ys) := Lib.hid (by have := HT.out; rwa [List.take_of_length_le (by rw [funD_len]; omega), List.take_of_length_le (by rw [funD_len]; omega)] at this)
          go_wp2_with fail
          go_ret
          exact ⟨ret_bool (by unfold sameB; rw [HZ.out, decide_eq_true HE2.out]; rfl), HB.out⟩
  · have q : ((xs.length : Int) != ys.length) = true := bne_iff_ne.2 (by omega)
    have HN : Hid (funD xs ≠ funD ys) := Lib.hid (fun h => hlen (by rw [← funD_len xs, h, funD_len]))
    clear hlen
    go_enter Tryd.func13, Tryd.ntmps13
    go_wp2_with fail
    go_ret
    exact ⟨ret_bool (by unfold sameB; rw [decide_eq_false HN.out, Bool.and_false]), HW.out.below⟩
end Go.Proofs.YtbffebcjimhapaaDoor
namespace Go.Proofs.YtbffebcjimhapaaDoor
set_option linter.unusedVariables false
set_option linter.unusedSimpArgs false
open Go.ChangeShapes Go.WideShapes Go.ChangeAt Go.RowKit

theorem toL_app (a b : ByteArray) : toL (a ++ b) = toL a ++ toL b := by
  unfold toL
  rw [ByteArray.data_append, Array.toList_append]
/-- Is a text none that is read, by that error? -/
def oddB (z : PProg × Int) (want : Int) : Bool := z.2 == want && z.1.funs.isEmpty && z.1.types.isEmpty
theorem odd7_any (s : ByteArray) (hs : s.size ≤ 20000) (want : Int) (w : World) (hT : TabW w) : Calls Tryd.prog 8 #[.string s, .int .i64 want] w fun e w' => e = .returned (.bool (oddB (readA (toL s)) want)) ∧ Below w.heap.size w w' := by
  have HR := Lib.hid (pread_any s hs w hT)
  obtain ⟨z, hz⟩ : ∃ z, readA (toL s) = z := ⟨_, rfl⟩
  rw [hz] at HR ⊢
  clear hT hs hz
  obtain ⟨p, er⟩ := z
  have key : ∃ b1 b2 b3 : Bool, (er == want) = b1 ∧ p.funs.isEmpty = b2 ∧ p.types.isEmpty = b3 := ⟨_, _, _, rfl, rfl, rfl⟩
  obtain ⟨b1, b2, b3, h1, h2, h3⟩ := key
  have ho : oddB (p, er) want = (b1 && b2 && b3) := by unfold oddB; rw [h1, h2, h3]
  rw [ho]
  have H2 := Lib.hid h2
  have H3 := Lib.hid h3
  clear h2 h3 ho
  go_enter Tryd.func8, Tryd.ntmps8
  go_wp2_with (go_at_call 7; refine HR.out.mono ?_; rintro e w1 ⟨r, rfl, hown, hdat, hb⟩; have HB := Lib.hid hb; have HD := Lib.hid hdat; clear hb hown hdat; obtain ⟨ta, tc, types, fa, fc, funs⟩ := r; unfold PrR.val; dsimp only at *; have q2 : ((funs.length : Int) == 0) = b2 := by { rw [← H2.out, ← HD.out]; show _ = (funs.map FuR.data).isEmpty; cases funs; rfl; simp; omega }; have q3 : ((types.length : Int) == 0) = b3 := by { rw [← H3.out, ← HD.out]; show _ = (types.map TyR.data).isEmpty; cases types; rfl; simp; omega }; have HBN := Lib.hid (HB.out.alloc HB.out.size (.cells #[.slice ta types.length tc, .slice fa funs.length fc] 25)); refine pause ?_)
  cases b1 <;> cases b2 <;> cases b3 <;> (refine resume ?_; go_wp2_with fail; go_ret; exact ⟨rfl, HBN.out⟩)
/-- The chapter's text, its last lines being others. -/
def textS : ByteArray := ⟨#[116, 121, 112, 101, 32, 105, 110, 116, 10, 116, 121, 112, 101, 32, 102, 110, 32, 116, 48, 10, 102, 117, 110, 99, 32, 116, 49, 10, 98, 108, 111, 99, 107, 10, 114, 48, 32, 116, 48, 32, 61, 32, 105, 110, 116, 32, 53, 10, 106, 117, 109, 112, 32, 98, 49, 10, 98, 108, 111, 99, 107, 10]⟩
theorem text7_any (s : ByteArray) (hs : s.size ≤ 20000) (w : World) : Calls Tryd.prog 9 #[.string s] w fun e w' => e = .returned (.string (textS ++ s)) ∧ w' = w := by
  go_enter Tryd.func9, Tryd.ntmps9
  go_wp2_with fail
  go_ret
  exact ⟨rfl, rfl⟩
set_option maxRecDepth 100000 in
set_option maxHeartbeats 3200000 in
theorem chapter7_any (w : World) : Calls Tryd.prog 18 #[] w fun e w' => e = .returned (chapV w.heap.size) ∧ Chap w' w.heap.size chJ 0 1 true ∧ Below w.heap.size w w' := by
  go_enter Tryd.func18, Tryd.ntmps18
  go_wp2_with fail
  refine bodyPost_ret (v := chapV w.heap.size) (by simp [results, Tryd.results18, go_sem, chapV]) rfl ?_
  refine ⟨rfl, ⟨?_, ?_, ?_, ?_, ?_⟩, ?_⟩
  · exact ((((((blk_at _ _ _ _ (by simp)).alloc _).alloc _).alloc _).alloc _).alloc _).alloc _
  · exact ((((blk_at _ _ _ _ (by simp)).alloc _).alloc _).alloc _).alloc _
  · exact ((blk_at _ _ _ _ (by simp)).alloc _).alloc _
  · exact (blk_at _ _ _ _ (by simp)).alloc _
  · exact blk_at _ _ _ _ (by simp)
  · repeat (first | exact Below.refl _ _ | refine Below.alloc ?_ (by simp <;> omega) _)
end Go.Proofs.YtbffebcjimhapaaDoor
