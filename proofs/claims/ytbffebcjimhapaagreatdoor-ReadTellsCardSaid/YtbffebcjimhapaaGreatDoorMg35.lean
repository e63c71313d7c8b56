/-
  The program's word for shapes: may a function be. And what stands on it: ShProg5, ShProg6, ShProg7.
-/
import Derived.Test.YtbffebcjimhapaaGreatDoorMg32
import Derived.Test.YtbffebcjimhapaaGreatDoorMg33
import Derived.Test.YtbffebcjimhapaaGreatDoorMg34
import Derived.Deep.RegionHeld3
import Derived.Laws.EntriesVeiled
namespace Go.Proofs.YtbffebcjimhapaaGreatDoor
set_option linter.unusedVariables false
set_option linter.unusedSimpArgs false
open Go.ChangeShapes Go.WideShapes Go.ChangeAt Go.RowKit
theorem pins_any {w : World} (x : InR) (hx : x.Ok w) (hal : x.args.length ≤ 1000) (hfl : x.from_.length ≤ 1000) (t f r b : Int) (ht : TabW w) {z : Bool} (hz : insB x.data t f r b = z) :
    Calls Tryz.prog 91 #[x.val, szV t f r b] w fun e w' => e = .returned (.bool z) ∧ Below w.heap.size w w' := by
 have hk := (has_facts x.op).1
 cases h0 : hasT x.op 0 with
 | true =>
   cases h1 : hasT x.op 1 with
   | true => exact pins_g1 x h0 h1 hx hal hfl t f r b ht hz
   | false =>
     cases h2 : hasT x.op 2 with
     | true => exact pins_g2 x h0 h1 h2 hx hal hfl t f r b ht hz
     | false => exact pins_g3 x h0 h1 h2 hx hal hfl t f r b ht hz
 | false =>
   have h1 : hasT x.op 1 = false := by
    cases h1 : hasT x.op 1 with
    | false => rfl
    | true =>
      rw [h0, h1] at hk
      simp [okHas] at hk
   cases h2 : hasT x.op 2 with
   | true => exact pins_g4 x h0 h1 h2 hx hal hfl t f r b ht hz
   | false => exact pins_g5 x h0 h1 h2 hx hal hfl t f r b ht hz
theorem enters_fun1 : Enters 90 := fun _ _ => by kernel_rfl
theorem enters_fun2 : Enters 93 := fun _ _ => by kernel_rfl
theorem enters_chk1 : Enters 44 := fun _ _ => by kernel_rfl
def szA (t f r b : Int) : Array Value := #[.int .i64 t, .int .i64 f, .int .i64 r, .int .i64 b]
set_option maxRecDepth 100000 in
theorem fun1_any {w : World} {g : Nat} (x : InR) (hx : x.Ok w) (hal : x.args.length ≤ 1000) (hfl : x.from_.length ≤ 1000) (t f r b : Int) (ht : TabW w) (hs : Blk w g 148 (szA t f r b)) {z : Bool} (hz : insB x.data t f r b = z) :
    Calls Tryz.prog 90 #[x.val, .pointer (some ⟨g, 0, none⟩)] w fun e w' => e = .returned (.bool (!z)) ∧ Below w.heap.size w w' := by
 have HC := Lib.hid (fun W (hb : Below w.heap.size w W) => pins_any x (hx.on hb) hal hfl t f r b (ht.on hb) hz)
 unfold InR.val szV at *
 unfold szA at hs
 obtain ⟨op, ty, a, bb, n, aa, ac, args, xa, xc, from_⟩ := x
 dsimp only at *
 have HB := Lib.hid ((Below.refl w.heap.size w).alloc (Nat.le_refl _) (.cells #[.int .u8 op, .int .i64 ty, .int .i64 a, .int .i64 bb, .int .i64 n, .slice aa args.length ac, .slice xa from_.length xc] 74))
 have s0 := hs.cells 0
 have s1 := hs.cells 1
 have s2 := hs.cells 2
 have s3 := hs.cells 3
 have hg := hs.lt
 clear hx ht hs hz hal hfl
 have q0 := (HB.out.cell (p := ⟨g, 0, none⟩) hg).trans s0
 have q1 := (HB.out.cell (p := ⟨g, 1, none⟩) hg).trans s1
 have q2 := (HB.out.cell (p := ⟨g, 2, none⟩) hg).trans s2
 have q3 := (HB.out.cell (p := ⟨g, 3, none⟩) hg).trans s3
 clear s0 s1 s2 s3
 go_enter Tryz.func90, Tryz.ntmps90
 go_wp2_with fail
 refine (HC.out _ HB.out).mono ?_
 rintro e w1 ⟨rfl, hb1⟩
 have HB1 := Lib.hid (HB.out.trans (hb1.mono HB.out.size))
 clear hb1
 go_wp2_with fail
 go_ret
 exact ⟨rfl, HB1.out⟩
set_option maxRecDepth 100000 in
theorem fun2_any {w : World} {go gs : Nat} (v : BlR) (hv : v.Ok w) (hal : ∀ x ∈ v.ins, x.args.length ≤ 1000) (hfl : ∀ x ∈ v.ins, x.from_.length ≤ 1000) (t f : Nat) (r : Int) (b : Nat) (ht : TabW w) (hs : Blk w gs 148 (szA t f r b))
    (ho : w.cell? ⟨go, 0, none⟩ = some (.func (.func 90) #[] #[.pointer (some ⟨gs, 0, none⟩)])) :
    Calls Tryz.prog 93 #[v.val, .pointer (some ⟨go, 0, none⟩), .pointer (some ⟨gs, 0, none⟩)] w fun e w' => e = .returned (.bool (!blkOk t f r b v)) ∧ Below w.heap.size w w' := by
 obtain ⟨z, hz⟩ : ∃ z, v.ins.all (insOk t f r b) = z := ⟨_, rfl⟩
 obtain ⟨y, hy⟩ : ∃ y, endB ⟨v.kind, v.a, v.to, v.els⟩ r b = y := ⟨_, rfl⟩
 have hbk : blkOk t f r b v = (z && y) := by unfold blkOk; rw [hz, hy]
 rw [hbk]
 have hany : v.ins.any (fun x => !insOk t f r b x) = !z := by rw [← hz, List.all_eq_not_any_not, Bool.not_not]
 have HC := Lib.hid (fun W (hb : Below w.heap.size w W) => containsI_any (hv.ins.on hb) 90 #[.pointer (some ⟨gs, 0, none⟩)] (fun x => !insOk t f r b x) ⟨enters_fun1, fun W' x hb' hx => fun1_any x (((hv.ins.on hb).ok x hx).on hb') (hal x hx) (hfl x hx) t f r b (ht.on (hb.trans (hb'.mono hb.size))) (hs.beneath (hb.trans (hb'.mono hb.size))) rfl⟩ hany)
 have HE := Lib.hid (fun W => pend_any ⟨v.kind, v.a, v.to, v.els⟩ t f r b W hy)
 have HS := Lib.hid hs
 have hgo : go < w.heap.size := World.block_lt_of_cell? w _ ho
 unfold BlR.val
 unfold endVal szV at HE
 obtain ⟨ia, ic, ins, kind, ea, et, el⟩ := v
 dsimp only at *
 have HN := Lib.hid (Blk.new w 71 #[.slice ia ins.length ic, .int .u8 kind, .int .i64 ea, .int .i64 et, .int .i64 el])
 have HB := Lib.hid ((Below.refl w.heap.size w).alloc (Nat.le_refl _) (.cells #[.slice ia ins.length ic, .int .u8 kind, .int .i64 ea, .int .i64 et, .int .i64 el] 71))
 have o0 := (HB.out.cell (p := ⟨go, 0, none⟩) hgo).trans ho
 clear hv ht hs hz hy hal hfl hany hbk ho hgo
 cases z with
 | false =>
   go_enter Tryz.func93, Tryz.ntmps93
   go_wp2_with fail
   refine (HC.out _ HB.out).mono ?_
   rintro e w1 ⟨rfl, hb1⟩
   have HB1 := Lib.hid (HB.out.trans (hb1.mono HB.out.size))
   clear hb1
   go_wp2_with fail
   go_ret
   exact ⟨rfl, HB1.out⟩
 | true =>
   go_enter Tryz.func93, Tryz.ntmps93
   go_wp2_with fail
   refine (HC.out _ HB.out).mono ?_
   rintro e w1 ⟨rfl, hb1⟩
   have HB1 := Lib.hid (HB.out.trans (hb1.mono HB.out.size))
   have n0 := (HN.out.beneath hb1).cells 0
   have n1 := (HN.out.beneath hb1).cells 1
   have n2 := (HN.out.beneath hb1).cells 2
   have n3 := (HN.out.beneath hb1).cells 3
   have n4 := (HN.out.beneath hb1).cells 4
   have s0 := (HS.out.beneath HB1.out).cells 0
   have s1 := (HS.out.beneath HB1.out).cells 1
   have s2 := (HS.out.beneath HB1.out).cells 2
   have s3 := (HS.out.beneath HB1.out).cells 3
   unfold szA at s0 s1 s2 s3
   clear hb1 o0
   go_wp2_with fail
   refine (HE.out _).mono ?_
   rintro e w2 ⟨rfl, hb2⟩
   have HB2 := Lib.hid (HB1.out.trans (hb2.mono HB1.out.size))
   clear hb2
   go_wp2_with fail
   go_ret
   exact ⟨rfl, HB2.out⟩
theorem BoxF.put {w0 w : World} {g1 g2 g i : Nat} {p x : Array Value} {u : Value} (h : BoxF w0 w g1 g2 p x) (h1 : g ≠ g1) (h2 : g ≠ g2) (h0 : w0.heap.size ≤ g) : BoxF w0 (w.setCell ⟨g, i, none⟩ u) g1 g2 p x :=
 ⟨h.p.far (fun e => h1 e.symm) u, h.x.far (fun e => h2 e.symm) u, h.below.setCell h0 u⟩
set_option maxRecDepth 100000 in
set_option maxHeartbeats 1600000 in
theorem pfunction_any {w : World} {p : PrR} (h : ProgIn w p) (hpp : ∀ t ∈ p.types, t.parts.length ≤ 1000000) (ht : TabW w) (f : FuR) (hf : f.Ok w) (hfl : FuLim f) {z : Bool} (hz : funB p.data f.data = z) :
    Calls Tryz.prog 45 #[p.val, f.val] w fun e w' => e = .returned (.bool z) ∧ Below w.heap.size w w' := by
 have hpl := h.types.len
 have hbl := hfl.blocks
 have hfc := h.funs.hdr.cle
 have HPP := Lib.hid hpp
 clear hpp
 have HP := Lib.hid h
 have HMY := Lib.hid (fun W (hb : Below w.heap.size w W) => pmany_any f (hf.blocks.on hb) hfl.blocks hfl.ins)
 obtain ⟨q, hq⟩ : ∃ b, headB p.data f.data = b := ⟨_, rfl⟩
 obtain ⟨rg, hrg⟩ : ∃ b : Nat, regsP p.data f.data = b := ⟨_, rfl⟩
 obtain ⟨mn, hmn⟩ : ∃ b : Nat, manyB (f.blocks.map BlR.data) = b := ⟨_, rfl⟩
 have hsp := fun_split p f
 rw [hq, hrg, hz] at hsp
 rw [hmn] at HMY
 have hrg2 : f.sig < p.types.length → 0 ≤ f.sig → (p.types.getD f.sig.toNat default).parts.length + mn = rg := fun a b => by
  rw [← hrg, ← hmn]
  unfold regsP parsP
  have : p.data.types.getD f.data.sig.toNat default = (p.types.getD f.sig.toNat default).data := tbl_at (show f.sig.toNat < _ by omega)
  rw [this]
  rfl
 have hq2 : q = (inB f.sig p.types.length && (decide ((p.data.types.getD f.sig.toNat default).kind = 3) && (decide (1 ≤ f.blocks.length ∧ f.blocks.length ≤ 16) && decide (mn ≤ 128)))) := by
  rw [← hq, ← hmn]
  unfold headB
  rw [show p.data.types.length = p.types.length from tbl_len _, show f.data.blocks.length = f.blocks.length from List.length_map ..]
  rfl
 have hkd : f.sig < p.types.length → 0 ≤ f.sig → p.data.types.getD f.sig.toNat default = (p.types.getD f.sig.toNat default).data := fun a b => tbl_at (by omega)
 have hall : f.blocks.any (fun b => !blkOk p.types.length p.funs.length (rg : Nat) f.blocks.length b) = !(f.blocks.all (blkOk p.types.length p.funs.length (rg : Nat) f.blocks.length)) := by
  rw [List.all_eq_not_any_not, Bool.not_not]
 obtain ⟨ab, hab⟩ : ∃ b, f.blocks.all (blkOk p.types.length p.funs.length (rg : Nat) f.blocks.length) = b := ⟨_, rfl⟩
 rw [hab] at hall hsp
 have HCB := Lib.hid (fun W (hb : Below w.heap.size w W) (go gs : Nat) (hs : Blk W gs 148 (szA p.types.length p.funs.length rg f.blocks.length)) (ho : W.cell? ⟨go, 0, none⟩ = some (.func (.func 90) #[] #[.pointer (some ⟨gs, 0, none⟩)])) =>
  containsB_any (hf.blocks.on hb) 93 #[.pointer (some ⟨go, 0, none⟩), .pointer (some ⟨gs, 0, none⟩)] (fun b => !blkOk p.types.length p.funs.length (rg : Nat) f.blocks.length b)
   ⟨enters_fun2, fun W' v hb' hv => fun2_any v (((hf.blocks.on hb).ok v hv).on hb') (hfl.args v hv) (hfl.froms v hv) p.types.length p.funs.length rg f.blocks.length (ht.on (hb.trans (hb'.mono hb.size))) (hs.beneath hb') ((hb'.cell (p := ⟨go, 0, none⟩) (World.block_lt_of_cell? W _ ho)).trans ho)⟩ hall)
 have HRG := Lib.hid hrg2
 have HQ := Lib.hid hq2
 have HKD := Lib.hid hkd
 have HR := Lib.hid hsp
 unfold PrR.val FuR.val at *
 clear hsp hrg hq hmn hrg2 hq2 hkd hf h hfl hab hall hz ht
 obtain ⟨ta, tc, types, fa, fc, funs⟩ := p
 obtain ⟨sig, ba, bc, blocks⟩ := f
 dsimp only at *
 have HW1 := Lib.hid (show BoxF w ((w.alloc (.cells #[.slice ta types.length tc, .slice fa funs.length fc] 25)).alloc (.cells #[.int .i64 sig, .slice ba blocks.length bc] 64)) w.heap.size (w.heap.size + 1) #[.slice ta types.length tc, .slice fa funs.length fc] #[.int .i64 sig, .slice ba blocks.length bc] from
  ⟨(Blk.new w _ _).beneath ((Below.refl _ _).alloc (Nat.le_refl _) _), heap_at _ _ _ (World.size_alloc _ _), ((Below.refl _ _).alloc (Nat.le_refl _) _).alloc (by rw [World.size_alloc]; omega) _⟩)
 have HTR := Lib.hid (fun (k : Nat) (hk : k < types.length) => HP.out.types.rows.elem hk)
 go_enter Tryz.func45, Tryz.ntmps45
 go_upto_region 1 with fail
 go_cut [36] (fun c wx => c = .bool (!q) ∧ Hid (BoxF w wx w.heap.size (w.heap.size + 1) #[.slice ta types.length tc, .slice fa funs.length fc] #[.int .i64 sig, .slice ba blocks.length bc]))
 case first =>
  have x0 := HW1.out.x.cells 0; have x1 := HW1.out.x.cells 1; have p0 := HW1.out.p.cells 0; have p1 := HW1.out.p.cells 1
  by_cases s01 : 0 ≤ sig ∧ sig < types.length
  · obtain ⟨s0, s1⟩ := s01
    have HI : Hid (inB sig types.length = true) := Lib.hid (inB_iff.2 ⟨s0, s1⟩)
    obtain ⟨k, rfl⟩ : ∃ k : Nat, sig = k := ⟨sig.toNat, by omega⟩
    have hk : k < types.length := by omega
    obtain ⟨b, off, rfl, hb, d0, _, _, _⟩ := (HTR.out k hk).at_
    have e0 := (HW1.out.below.cell (p := ⟨b, off + k * 4, none⟩) hb).trans d0
    clear d0
    have HKK : Hid (q = (decide ((types.getD k default).kind = 3) && (decide (1 ≤ blocks.length ∧ blocks.length ≤ 16) && decide (mn ≤ 128)))) := Lib.hid (by
     rw [HQ.out, inB_iff.2 ⟨s0, s1⟩, HKD.out s1 s0]
     rfl)
    obtain ⟨kd, hkd⟩ : ∃ kd, (types.getD k default).kind = kd := ⟨_, rfl⟩
    rw [hkd] at e0 HKK
    clear hkd HKD HTR
    by_cases k3 : kd = 3
    · subst k3
      obtain ⟨bz, hbz⟩ : ∃ v, inB ((blocks.length : Int) - 1) 16 = v := ⟨_, rfl⟩
      have hbz2 : decide (1 ≤ blocks.length ∧ blocks.length ≤ 16) = bz := by
       rw [← hbz, Bool.eq_iff_iff, inB_iff, decide_eq_true_iff]
       omega
      have HBZ := Lib.hid hbz
      have hblz : (blocks.length : Int) ≤ 20000 := by omega
      rw [hbz2] at HKK
      clear hbz hbz2
      go_wp2_with fail
      refine (pbelow_is HI.out _).mono ?_
      rintro e w9 ⟨rfl, rfl⟩
      go_wp2_with fail
      refine (pbelow_is HBZ.out _).mono ?_
      rintro e w9 ⟨rfl, rfl⟩
      cases bz with
      | false =>
        have HZ : Hid (q = false) := Lib.hid (by rw [HKK.out]; simp)
        go_wp2_with fail
        go_meet
        exact ⟨by rw [HZ.out]; rfl, HW1⟩
      | true =>
        have HK2 : Hid (q = decide (mn ≤ 128)) := Lib.hid (by rw [HKK.out]; simp)
        go_wp2_with fail
        refine (HMY.out _ HW1.out.below).mono ?_
        rintro e w2 ⟨rfl, hb2⟩
        have HW2 := Lib.hid (HW1.out.on hb2)
        clear hb2 x0 x1 p0 p1 e0
        by_cases m0 : mn ≤ 128
        · have m0z : ¬ (128 : Int) < mn := by omega
          have HZ : Hid (q = true) := Lib.hid (by rw [HK2.out]; exact decide_eq_true m0)
          clear m0
          go_wp2_with fail
          go_meet
          exact ⟨by rw [HZ.out]; first | rfl | (congr 1; simp; omega), HW2⟩
        · have m0z : (128 : Int) < mn := by omega
          have HZ : Hid (q = false) := Lib.hid (by rw [HK2.out]; exact decide_eq_false m0)
          clear m0
          go_wp2_with fail
          go_meet
          exact ⟨by rw [HZ.out]; first | rfl | (congr 1; simp; omega), HW2⟩
    · have k3z : ((kd : Int) != 3) = true := bne_iff_ne.2 (by omega)
      have HZ : Hid (q = false) := Lib.hid (by rw [HKK.out, decide_eq_false k3]; rfl)
      clear k3
      go_wp2_with fail
      refine (pbelow_is HI.out _).mono ?_
      rintro e w9 ⟨rfl, rfl⟩
      go_wp2_with fail
      go_meet
      exact ⟨by rw [HZ.out]; rfl, HW1⟩
  · have HI : Hid (inB sig types.length = false) := Lib.hid (inB_not.2 (by omega))
    have HZ : Hid (q = false) := Lib.hid (by rw [HQ.out, HI.out]; rfl)
    clear s01
    go_wp2_with fail
    refine (pbelow_is HI.out _).mono ?_
    rintro e w9 ⟨rfl, rfl⟩
    go_wp2_with fail
    go_meet
    exact ⟨by rw [HZ.out]; rfl, HW1⟩
 case rest =>
  clear HW1
  obtain ⟨rfl, HW1⟩ := hcut
  cases q with
  | false =>
    have HZ : Hid (z = false) := Lib.hid (by rw [HR.out]; rfl)
    go_wp2_with fail
    go_ret
    exact ⟨ret_bool HZ.out.symm, HW1.out.below⟩
  | true =>
    have HZ : Hid (z = ab) := Lib.hid (by rw [HR.out]; rfl)
    rw [Bool.not_true]
    have hq3 := HQ.out.symm
    rw [Bool.and_eq_true, inB_iff, Bool.and_eq_true, Bool.and_eq_true, decide_eq_true_eq, decide_eq_true_eq, decide_eq_true_eq] at hq3
    obtain ⟨⟨s0, s1⟩, k3, ⟨b0, b1⟩, m0⟩ := hq3
    have hrp := HRG.out s1 s0
    obtain ⟨k, rfl⟩ : ∃ k : Nat, sig = k := ⟨sig.toNat, by omega⟩
    have hk : k < types.length := by omega
    obtain ⟨b, off, rfl, hb, _, _, _, d3⟩ := (HTR.out k hk).at_
    rw [Int.toNat_natCast] at hrp
    obtain ⟨r, hr⟩ : ∃ r, types.getD k default = r := ⟨_, rfl⟩
    rw [hr] at d3 hrp
    have hprl : r.parts.length ≤ 1000000 := by rw [← hr]; exact HPP.out _ (mem_getD (d := default) hk)
    obtain ⟨pr, hpr⟩ : ∃ n, r.parts.length = n := ⟨_, rfl⟩
    rw [hpr] at d3 hrp hprl
    have e3 := (HW1.out.below.cell (p := ⟨b, off + k * 4 + 3, none⟩) hb).trans d3
    have HE3 := Lib.hid (And.intro hb d3)
    clear hr hpr k3 HKD HTR HRG HQ d3 HPP
    have b1z : (blocks.length : Int) ≤ 16 := by omega
    have prz : (pr : Int) ≤ 1000000 := by omega
    have mnz : (mn : Int) ≤ 128 := by omega
    have rgw : IntKind.i64.wrap (rg : Int) = rg := IntWalk.i64_in _ (by omega)
    have rgz : (pr : Int) + (mn : Int) = (rg : Int) := by omega
    clear hrp m0 hprl b0 b1
    have x0 := HW1.out.x.cells 0; have x1 := HW1.out.x.cells 1; have p0 := HW1.out.p.cells 0; have p1 := HW1.out.p.cells 1
    go_upto_region 3 with fail
    go_cut [5] (fun v wx => ∃ gs : Nat, v = .pointer (some ⟨gs, 0, none⟩) ∧ Hid (Blk wx gs 148 (szA types.length funs.length rg blocks.length) ∧ BoxF w wx w.heap.size (w.heap.size + 1) #[.slice (some ⟨b, off, none⟩) types.length tc, .slice fa funs.length fc] #[.int .i64 k, .slice ba blocks.length bc]))
    case first =>
     have n0' := World.new_ne _ _ p0
     have n2' := World.new_ne _ _ x0
     have n4' := World.new_ne _ _ e3
     go_region_held3 (fun w' => w'.cell? ⟨w.heap.size, 0, none⟩ = some (.slice (some ⟨b, off, none⟩) types.length tc) ∧ w'.cell? ⟨w.heap.size, 1, none⟩ = some (.slice fa funs.length fc) ∧ w'.cell? ⟨w.heap.size + 1, 0, none⟩ = some (.int .i64 k) ∧ w'.cell? ⟨w.heap.size + 1, 1, none⟩ = some (.slice ba blocks.length bc) ∧ w'.cell? ⟨b, off + k * 4 + 3, none⟩ = some (.slice r.pa pr r.pc)) (go_keep)
      (first
        | (go_at_call 89
           refine (HMY.out _ HW1.out.below.drew).mono ?_
           rintro e w2 ⟨rfl, hb2⟩
           have HW2 := Lib.hid (HW1.out.on ((Below.refl _ _).drew.trans hb2))
           have m0 := HW2.out.p.cells 0
           have m1 := HW2.out.p.cells 1
           have m2 := HW2.out.x.cells 0
           have m3 := HW2.out.x.cells 1
           have m4 := (HW2.out.below.cell (p := ⟨b, off + k * 4 + 3, none⟩) HE3.out.1).trans HE3.out.2
           have n0 := World.new_ne _ _ m0
           have n2 := World.new_ne _ _ m2
           have n4 := World.new_ne _ _ m4
           clear hb2)
        | (go_at_call 89
           refine (HMY.out _ (HW1.out.below.drew.alloc HW1.out.below.size (.cells #[.int .i64 0, .int .i64 0, .int .i64 0, .int .i64 0] 148))).mono ?_
           rintro e w2 ⟨rfl, hb2⟩
           have HW2 := Lib.hid (HW1.out.on (((Below.refl _ _).drew.alloc (Nat.le_refl _) _).trans (hb2.mono (by simp))))
           have hnb := (Blk.new wc.drew 148 #[.int .i64 0, .int .i64 0, .int .i64 0, .int .i64 0]).beneath hb2
           have HNB := Lib.hid hnb
           have z0 : w2.cell? ⟨wc.heap.size, 0, none⟩ = _ := hnb.cells 0
           have z1 : w2.cell? ⟨wc.heap.size, 1, none⟩ = _ := hnb.cells 1
           have z2 : w2.cell? ⟨wc.heap.size, 2, none⟩ = _ := hnb.cells 2
           have z3 : w2.cell? ⟨wc.heap.size, 3, none⟩ = _ := hnb.cells 3
           have y0 : w2.frozen? ⟨wc.heap.size, 0, none⟩ = false := hnb.free 0
           have y1 : w2.frozen? ⟨wc.heap.size, 1, none⟩ = false := hnb.free 1
           have y2 : w2.frozen? ⟨wc.heap.size, 2, none⟩ = false := hnb.free 2
           have y3 : w2.frozen? ⟨wc.heap.size, 3, none⟩ = false := hnb.free 3
           have m0 := HW2.out.p.cells 0
           have m1 := HW2.out.p.cells 1
           have m2 := HW2.out.x.cells 0
           have m3 := HW2.out.x.cells 1
           have m4 := (HW2.out.below.cell (p := ⟨b, off + k * 4 + 3, none⟩) HE3.out.1).trans HE3.out.2
           have n0 := World.new_ne _ _ m0
           have n2 := World.new_ne _ _ m2
           have n4 := World.new_ne _ _ m4
           clear hb2 hnb))
     · go_wp2_with fail
       go_meet
       exact ⟨_, rfl, Lib.hid ⟨Blk.new _ _ _, HW2.out.on ((Below.refl _ _).alloc (Nat.le_refl _) _)⟩⟩
     · have hA : Blk ((((w2.setCell ⟨wc.heap.size, 0, none⟩ (.int .i64 types.length)).setCell ⟨wc.heap.size, 1, none⟩ (.int .i64 funs.length)).setCell ⟨wc.heap.size, 2, none⟩ (.int .i64 rg)).setCell ⟨wc.heap.size, 3, none⟩ (.int .i64 blocks.length)) wc.heap.size 148 (szA types.length funs.length rg blocks.length) :=
        (((HNB.out.put 0 _).put 1 _).put 2 _).put 3 _
       have hle := HW1.out.below.size
       have HH := Lib.hid (And.intro hA ((((HW2.out.put (i := 0) (u := .int .i64 types.length) n0' n2' hle).put (i := 1) (u := .int .i64 funs.length) n0' n2' hle).put (i := 2) (u := .int .i64 rg) n0' n2' hle).put (i := 3) (u := .int .i64 blocks.length) n0' n2' hle))
       clear hA hle
       go_wp2_with fail
       go_meet
       exact ⟨_, rfl, HH⟩
    case rest =>
     clear HW1
     obtain ⟨gs, rfl, HHS⟩ := hcut
     have HS := Lib.hid HHS.out.1
     have HW1 := Lib.hid HHS.out.2
     clear HHS x0 x1 p0 p1 e3
     have HB2 := Lib.hid ((Below.refl wc.heap.size wc).alloc (Nat.le_refl _) (.cells #[.func (.func 90) #[] #[.pointer (some ⟨gs, 0, none⟩)]] 150))
     have HW2 := Lib.hid (HW1.out.on HB2.out)
     have HO := Lib.hid ((Blk.new wc 150 #[.func (.func 90) #[] #[.pointer (some ⟨gs, 0, none⟩)]]).cells 0)
     have x0 := HW2.out.x.cells 0; have x1 := HW2.out.x.cells 1; have p0 := HW2.out.p.cells 0; have p1 := HW2.out.p.cells 1
     go_wp2_with fail
     refine (HCB.out _ HW2.out.below wc.heap.size gs (HS.out.beneath HB2.out) HO.out).mono ?_
     rintro e w2 ⟨rfl, hb2⟩
     have HW3 := Lib.hid (HW2.out.on hb2)
     clear hb2
     go_wp2_with fail
     go_ret
     exact ⟨ret_bool HZ.out.symm, HW3.out.below⟩
theorem PrLim.parts6 {p : PrR} (h : PrLim p) : ∀ t ∈ p.types, t.parts.length ≤ 1000000 := fun t ht => Nat.le_trans (h.parts t ht) (by omega)
set_option maxRecDepth 100000 in
theorem chk1_any {w : World} {p : PrR} (h : ProgIn w p) (hl : PrLim p) (ht : TabW w) {g : Nat} (hg : Blk w g 25 #[.slice p.ta p.types.length p.tc, .slice p.fa p.funs.length p.fc]) (f : FuR) (hf : f.Ok w) (hfl : FuLim f) {z : Bool} (hz : funB p.data f.data = z) :
    Calls Tryz.prog 44 #[f.val, .pointer (some ⟨g, 0, none⟩)] w fun e w' => e = .returned (.bool (!z)) ∧ Below w.heap.size w w' := by
 have HC := Lib.hid (fun W (hb : Below w.heap.size w W) => pfunction_any (h.on hb) hl.parts6 (ht.on hb) f (hf.on hb) hfl hz)
 unfold PrR.val FuR.val at *
 obtain ⟨ta, tc, types, fa, fc, funs⟩ := p
 obtain ⟨sig, ba, bc, blocks⟩ := f
 dsimp only at *
 have HB := Lib.hid ((Below.refl w.heap.size w).alloc (Nat.le_refl _) (.cells #[.int .i64 sig, .slice ba blocks.length bc] 64))
 have p0 := (hg.beneath HB.out).cells 0
 have p1 := (hg.beneath HB.out).cells 1
 clear h hl ht hg hf hfl hz
 go_enter Tryz.func44, Tryz.ntmps44
 go_wp2_with fail
 refine (HC.out _ HB.out).mono ?_
 rintro e w1 ⟨rfl, hb1⟩
 have HB1 := Lib.hid (HB.out.trans (hb1.mono HB.out.size))
 clear hb1
 go_wp2_with fail
 go_ret
 exact ⟨rfl, HB1.out⟩
theorem tchk_is {w : World} {A : Option Addr} {c : Nat} {rows : List TyR} (h : TabFew w A c rows) {e0 : Int} (he : checkT (tbl rows) = e0) : Calls Tryz.prog 41 #[.slice A rows.length c] w fun e w' => e = .returned (.int .i64 e0) ∧ Below w.heap.size w w' := he ▸ pcheck_any h
set_option maxRecDepth 100000 in
set_option maxHeartbeats 1600000 in
theorem ppcheck_is {w : World} {p : PrR} (h : ProgIn w p) (hl : PrLim p) (ht : TabW w) {r : Int} (hr : checkP p.data = r) :
    Calls Tryz.prog 21 #[p.val] w fun e w' => e = .returned (.int .i64 r) ∧ Below w.heap.size w w' := by
 have hfl := hl.many
 obtain ⟨e0, he⟩ : ∃ e, checkT (tbl p.types) = e := ⟨_, rfl⟩
 obtain ⟨al, hal⟩ : ∃ e, p.funs.all (funOk p) = e := ⟨_, rfl⟩
 have hs := check_split p he
 rw [hal, hr] at hs
 have hany : p.funs.any (fun f => !funOk p f) = !al := by rw [← hal, List.all_eq_not_any_not, Bool.not_not]
 have HTC := Lib.hid (fun W (hb : Below w.heap.size w W) => tchk_is (TabFew.on ⟨h.types, hl.parts⟩ hb) he)
 have HCF := Lib.hid (fun W (hb : Below w.heap.size w W) (g : Nat) (hg : Blk W g 25 #[.slice p.ta p.types.length p.tc, .slice p.fa p.funs.length p.fc]) =>
  containsF_any (h.funs.on hb) 44 #[.pointer (some ⟨g, 0, none⟩)] (fun f => !funOk p f) ⟨enters_chk1, fun W' f hb' hf => chk1_any (h.on (hb.trans (hb'.mono hb.size))) hl (ht.on (hb.trans (hb'.mono hb.size))) (hg.beneath hb') f (((h.funs.on hb).ok f hf).on hb') (hl.funs f hf) rfl⟩ hany)
 have HR := Lib.hid hs
 unfold PrR.val at *
 clear h hl ht hr he hal hs hany
 obtain ⟨ta, tc, types, fa, fc, funs⟩ := p
 dsimp only at *
 have HW1 := Lib.hid (BoxP.new w #[.slice ta types.length tc, .slice fa funs.length fc])
 have x0 := HW1.out.p.cells 0
 have x1 := HW1.out.p.cells 1
 have hflz : (funs.length : Int) ≤ 20000 := by omega
 by_cases z0 : e0 = 0
 · subst z0
   have HR2 : Hid (r = if (1 ≤ funs.length ∧ funs.length ≤ 8) ∧ al = true then 0 else 60) := Lib.hid (by rw [HR.out]; exact if_neg (by decide))
   obtain ⟨bz, hbz⟩ : ∃ v, inB ((funs.length : Int) - 1) 8 = v := ⟨_, rfl⟩
   have hbz2 : bz = true ↔ 1 ≤ funs.length ∧ funs.length ≤ 8 := by
    rw [← hbz, inB_iff]
    omega
   have HBZ := Lib.hid hbz
   have HBI := Lib.hid hbz2
   clear HR hbz hbz2 hfl
   go_enter Tryz.func21, Tryz.ntmps21
   go_wp2_with fail
   refine (HTC.out _ HW1.out.below).mono ?_
   rintro e w2 ⟨rfl, hb2⟩
   have HW2 := Lib.hid (HW1.out.on hb2)
   clear hb2 x0 x1
   have x0 := HW2.out.p.cells 0
   have x1 := HW2.out.p.cells 1
   go_wp2_with fail
   refine (pbelow_is HBZ.out _).mono ?_
   rintro e w9 ⟨rfl, rfl⟩
   cases bz with
   | false =>
     have HZ : Hid (r = 60) := Lib.hid (by rw [HR2.out, if_neg]; rintro ⟨h1, _⟩; exact absurd (HBI.out.2 h1) (by decide))
     go_wp2_with fail
     go_ret
     exact ⟨ret_num HZ.out.symm, HW2.out.below⟩
   | true =>
     have HI2 := Lib.hid (HBI.out.1 rfl)
     cases al with
     | false =>
       have HZ : Hid (r = 60) := Lib.hid (by rw [HR2.out, if_neg]; rintro ⟨_, h2⟩; exact absurd h2 (by decide))
       go_wp2_with fail
       refine (HCF.out _ HW2.out.below w.heap.size HW2.out.p).mono ?_
       rintro e w3 ⟨rfl, hb3⟩
       have HW3 := Lib.hid (HW2.out.on hb3)
       clear hb3
       go_wp2_with fail
       go_ret
       exact ⟨ret_num HZ.out.symm, HW3.out.below⟩
     | true =>
       have HZ : Hid (r = 0) := Lib.hid (by rw [HR2.out, if_pos ⟨HI2.out, rfl⟩])
       go_wp2_with fail
       refine (HCF.out _ HW2.out.below w.heap.size HW2.out.p).mono ?_
       rintro e w3 ⟨rfl, hb3⟩
       have HW3 := Lib.hid (HW2.out.on hb3)
       clear hb3
       go_wp2_with fail
       go_ret
       exact ⟨ret_num HZ.out.symm, HW3.out.below⟩
 · have HZ : Hid (r = e0) := Lib.hid (by rw [HR.out, if_pos z0])
   have ez : (e0 != 0) = true := bne_iff_ne.2 z0
   clear z0 HR
   go_enter Tryz.func21, Tryz.ntmps21
   go_wp2_with fail
   refine (HTC.out _ HW1.out.below).mono ?_
   rintro e w2 ⟨rfl, hb2⟩
   have HW2 := Lib.hid (HW1.out.on hb2)
   clear hb2
   go_wp2_with fail
   go_ret
   exact ⟨ret_num HZ.out.symm, HW2.out.below⟩
def parsE (p : PProg) (f : Int) : Int × Int := if askedP p f ≠ 0 then (0, askedP p f) else (parsP p (funAt p f), 0)
structure Seek (bs : List PBlk) (r0 b a : Nat) : Prop where
 same : whereB (bs.drop b) b a = whereB bs 0 r0
 in_ : a < manyB (bs.drop b)
theorem Seek.zero {bs : List PBlk} {r : Nat} (h : r < manyB bs) : Seek bs r 0 r := ⟨rfl, h⟩
theorem Seek.lt {bs : List PBlk} {r b a : Nat} (h : Seek bs r b a) : b < bs.length := by
 have := h.in_
 rcases Nat.lt_or_ge b bs.length with h' | h'
 · exact h'
 · rw [List.drop_eq_nil_of_le h'] at this
   exact absurd this (Nat.not_lt_zero _)
theorem drop_cons' {α : Type} [Inhabited α] {l : List α} {k : Nat} (h : k < l.length) : l.drop k = l.getD k default :: l.drop (k + 1) := by
 rw [List.drop_eq_getElem_cons h, getD_lt l h]
theorem Seek.done {bs : List PBlk} {r b a : Nat} (h : Seek bs r b a) (ha : a < (bs.getD b default).ins.length) : whereB bs 0 r = (b, a) := by
 rw [← h.same, drop_cons' h.lt]
 exact if_pos ha
theorem Seek.next {bs : List PBlk} {r b a : Nat} (h : Seek bs r b a) (ha : (bs.getD b default).ins.length ≤ a) : Seek bs r (b + 1) (a - (bs.getD b default).ins.length) := by
 have hs := h.same
 have hi := h.in_
 rw [drop_cons' h.lt] at hs hi
 have hs2 : whereB (bs.drop (b + 1)) (b + 1) (a - (bs.getD b default).ins.length) = whereB bs 0 r := by
  rw [← hs]
  exact (if_neg (by omega)).symm
 refine ⟨hs2, ?_⟩
 have : manyB (bs.getD b default :: bs.drop (b + 1)) = (bs.getD b default).ins.length + manyB (bs.drop (b + 1)) := by
  unfold manyB
  rw [List.map_cons, List.sum_cons]
 omega
theorem BlksAt.func {w : World} {f : FuR} (h : f.Ok w) {n : Nat} (hn : n ≤ f.blocks.length) : BlksAt w f.ba f.bc (f.blocks.take n) := h.blocks.take hn
end Go.Proofs.YtbffebcjimhapaaGreatDoor
