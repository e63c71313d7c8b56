/-
  A region that draws its order, whose operations read memory and whose calls make memory of their own: one walk, in the order of the text. The class of worlds: those that are as W was below W's size (Off W). And what stands on it: ShRef4, ShTwin1, ShRef5.
-/
import Derived.Test.YtbffebcjimhapaaGreatDoorMg7
import Derived.Test.YtbffebcjimhapaaGreatDoorMg22
import Derived.WalkKit
import Derived.ProofKit
import Derived.OpenShut
import Derived.BigQuiet
import Derived.Below
import Derived.Deep.Draws
namespace Go.Proofs.YtbffebcjimhapaaGreatDoor
set_option linter.unusedVariables false
set_option linter.unusedSimpArgs false
open Go.RowKit
structure Off (W : World) where
 val : World
 below : Below W.heap.size W val
instance (W : World) : Nonempty (Off W) := ⟨⟨W, Below.refl _ _⟩⟩
theorem Off.size {W : World} (n : Off W) : W.heap.size ≤ n.val.heap.size := n.below.size
theorem Off.at {W : World} {a : Addr} {v : Value} (h : W.cell? a = some v) (n : Off W) : n.val.cell? a = some v :=
 (n.below.cell (World.block_lt_of_cell? W a h)).trans h
theorem wp_region_off {P : Program} {id : Nat} {Q : Exit → Act → World → Prop} {a : Act} {w : World} {l : List Oper} (hm : P.follows .mixedOrders = true) (hB : Region.lexB .any l.toArray = true)
 (h : ∀ W : World, w = W → wpQuiet P l.toArray (fun w' => ∃ n : Off W, w' = n.val) (fun a' => ∀ w', (∃ n : Off W, w' = n.val) → Q .normal a' w') l a) : (Code.region id l.toArray true).wp P Q a w :=
 wp_region_quiet (C := fun w' => ∃ n : Off w, w' = n.val) hm hB ⟨⟨_, (Below.refl _ _).drew⟩, rfl⟩ (by simpa using h w rfl)
theorem Calls.off {P : Program} {f : FuncId} {args : Array Value} {W : World} {n : Off W} {v : Value}
 (h : Calls P f args n.val fun e w' => e = .returned v ∧ Below n.val.heap.size n.val w') : Calls P f args n.val fun e w'' => e = .returned v ∧ ∃ m : Off W, w'' = m.val :=
 h.mono fun _ w' ⟨he, hb⟩ => ⟨he, ⟨w', n.below.trans (hb.mono n.below.size)⟩, rfl⟩
end Go.Proofs.YtbffebcjimhapaaGreatDoor
namespace Go.Proofs.YtbffebcjimhapaaGreatDoor
set_option linter.unusedVariables false
set_option linter.unusedSimpArgs false
open Go.ChangeShapes Go.WideShapes Go.ChangeAt Go.RowKit
def insOk (tl fl : Nat) (regs : Int) (bl : Nat) (x : InR) : Bool := insB x.data tl fl regs bl
def blkOk (tl fl : Nat) (regs : Int) (bl : Nat) (b : BlR) : Bool := b.ins.all (insOk tl fl regs bl) && endB ⟨b.kind, b.a, b.to, b.els⟩ regs bl
structure FuLim (f : FuR) : Prop where
 blocks : f.blocks.length ≤ 20000
 ins : ∀ b ∈ f.blocks, b.ins.length ≤ 1000000
 args : ∀ b ∈ f.blocks, ∀ x ∈ b.ins, x.args.length ≤ 1000
 froms : ∀ b ∈ f.blocks, ∀ x ∈ b.ins, x.from_.length ≤ 1000
def headB (p : PProg) (f : PFun) : Bool := inB f.sig p.types.length && (decide ((p.types.getD f.sig.toNat default).kind = 3) && (decide (1 ≤ f.blocks.length ∧ f.blocks.length ≤ 16) && decide (manyB f.blocks ≤ 128)))
theorem fun_split (p : PrR) (f : FuR) : funB p.data f.data = (headB p.data f.data && f.blocks.all (blkOk p.types.length p.funs.length (regsP p.data f.data : Nat) f.blocks.length)) := by
 unfold funB headB
 congr 1
 show (f.blocks.map BlR.data).all _ = _
 rw [List.all_map]
 congr 1
 funext b
 show ((b.ins.map InR.data).all _ && _) = _
 rw [List.all_map]
 have h1 : p.data.types.length = p.types.length := tbl_len _
 have h2 : p.data.funs.length = p.funs.length := List.length_map ..
 have h3 : f.data.blocks.length = f.blocks.length := List.length_map ..
 rw [h1, h2, h3]
 rfl
structure BoxF (w0 w : World) (g1 g2 : Nat) (p x : Array Value) : Prop where
 p : Blk w g1 25 p
 x : Blk w g2 64 x
 below : Below w0.heap.size w0 w
theorem BoxF.on {w0 w w' : World} {g1 g2 : Nat} {p x : Array Value} (h : BoxF w0 w g1 g2 p x) (hb : Below w.heap.size w w') : BoxF w0 w' g1 g2 p x := ⟨h.p.beneath hb, h.x.beneath hb, h.below.trans (hb.mono h.below.size)⟩
theorem BoxF.off {w0 w : World} {g1 g2 : Nat} {p x : Array Value} (h : BoxF w0 w g1 g2 p x) (n : Off w) : Below w0.heap.size w0 n.val := (h.on n.below).below
set_option maxRecDepth 100000 in
set_option maxHeartbeats 1600000 in
theorem rmayFunc_any {w : World} {p : PrR} (h : ProgIn w p) (hpp : ∀ t ∈ p.types, t.parts.length ≤ 1000000) (f : FuR) (hf : f.Ok w) (hfl : FuLim f) :
 Calls Tryz.prog 68 #[p.val, f.val] w fun e w' => e = .returned (.bool (funB p.data f.data)) ∧ Below w.heap.size w w' := by
 have hpl := h.types.len
 have hbl := hf.blocks.hdr.cle
 have HPP := Lib.hid hpp
 clear hpp
 have HX := Lib.hid hf
 have HP := Lib.hid h
 have HL := Lib.hid hfl
 have HMI := Lib.hid (fun W (hb : Below w.heap.size w W) (x : InR) (hx : x.Ok W) (hl : x.args.length ≤ 1000) (regs many : Int) => rmayIns_any (h.on hb) x hx hl regs many)
 have HPA := Lib.hid (fun W (hb : Below w.heap.size w W) (h0 : 0 ≤ f.sig) (h1 : f.sig < p.types.length) => rparams_any (h.on hb) f h0 h1)
 have HMY := Lib.hid (fun W (hb : Below w.heap.size w W) => rmany_any (hf.blocks.on hb) hfl.blocks hfl.ins)
 obtain ⟨q, hq⟩ : ∃ b, headB p.data f.data = b := ⟨_, rfl⟩
 obtain ⟨rg, hrg⟩ : ∃ b : Nat, regsP p.data f.data = b := ⟨_, rfl⟩
 obtain ⟨mn, hmn⟩ : ∃ b : Nat, manyB (f.blocks.map BlR.data) = b := ⟨_, rfl⟩
 have hsp := fun_split p f
 rw [hq, hrg] at hsp
 rw [hsp]
 rw [hmn] at HMY
 have hrg2 : f.sig < p.types.length → 0 ≤ f.sig → (p.types.getD f.sig.toNat default).parts.length + mn = rg := fun a b => by
  rw [← hrg, ← hmn]
  unfold regsP parsP
  have : p.data.types.getD f.data.sig.toNat default = (p.types.getD f.sig.toNat default).data := tbl_at (show f.sig.toNat < _ by omega)
  rw [this]
  rfl
 have hq2 : q = (inB f.sig p.types.length && (decide ((p.data.types.getD f.sig.toNat default).kind = 3) && (decide (1 ≤ f.blocks.length ∧ f.blocks.length ≤ 16) && decide (mn ≤ 128)))) := by
  rw [← hq, ← hmn]
  unfold headB
  rw [show p.data.types.length = p.types.length from tbl_len _, show f.data.blocks.length = f.blocks.length from List.length_map ..]
  rfl
 have hkd : f.sig < p.types.length → 0 ≤ f.sig → p.data.types.getD f.sig.toNat default = (p.types.getD f.sig.toNat default).data := fun a b => tbl_at (by omega)
 have HRG := Lib.hid hrg2
 have HQ := Lib.hid hq2
 have HKD := Lib.hid hkd
 unfold PrR.val FuR.val at *
 clear hsp hrg hq hmn hrg2 hq2 hkd hf h hfl
 obtain ⟨ta, tc, types, fa, fc, funs⟩ := p
 obtain ⟨sig, ba, bc, blocks⟩ := f
 dsimp only at *
 have HW1 := Lib.hid (show BoxF w ((w.alloc (.cells #[.slice ta types.length tc, .slice fa funs.length fc] 25)).alloc (.cells #[.int .i64 sig, .slice ba blocks.length bc] 64)) w.heap.size (w.heap.size + 1) #[.slice ta types.length tc, .slice fa funs.length fc] #[.int .i64 sig, .slice ba blocks.length bc] from
  ⟨(Blk.new w _ _).beneath ((Below.refl _ _).alloc (Nat.le_refl _) _), heap_at _ _ _ (World.size_alloc _ _), ((Below.refl _ _).alloc (Nat.le_refl _) _).alloc (by rw [World.size_alloc]; omega) _⟩)
 have HTR := Lib.hid (fun (k : Nat) (hk : k < types.length) => HP.out.types.rows.elem hk)
 go_enter Tryz.func68, Tryz.ntmps68
 go_upto_region 1 with fail
 go_cut [46] (fun c wx => c = .bool (!q) ∧ Hid (BoxF w wx w.heap.size (w.heap.size + 1) #[.slice ta types.length tc, .slice fa funs.length fc] #[.int .i64 sig, .slice ba blocks.length bc]))
 case first =>
  have x0 := HW1.out.x.cells 0; have x1 := HW1.out.x.cells 1; have p0 := HW1.out.p.cells 0; have p1 := HW1.out.p.cells 1
  by_cases s0 : 0 ≤ sig
  · by_cases s1 : sig < types.length
    · obtain ⟨k, rfl⟩ : ∃ k : Nat, sig = k := ⟨sig.toNat, by omega⟩
      have hk : k < types.length := by omega
      obtain ⟨b, off, rfl, hb, d0, _, _, _⟩ := (HTR.out k hk).at_
      have e0 := (HW1.out.below.cell (p := ⟨b, off + k * 4, none⟩) hb).trans d0
      clear d0
      have HKK : Hid (q = (decide ((types.getD k default).kind = 3) && (decide (1 ≤ blocks.length ∧ blocks.length ≤ 16) && decide (mn ≤ 128)))) := Lib.hid (by
       rw [HQ.out, inB_iff.2 ⟨s0, s1⟩, HKD.out s1 s0]
       rfl)
      obtain ⟨kd, hkd⟩ : ∃ kd, (types.getD k default).kind = kd := ⟨_, rfl⟩
      rw [hkd] at e0 HKK
      clear hkd HKD HTR
      by_cases k3 : kd = 3
      · subst k3
        by_cases b0 : 1 ≤ blocks.length
        · have b0z : (1 : Int) ≤ blocks.length := by omega
          by_cases b1 : blocks.length ≤ 16
          · have b1z : (blocks.length : Int) ≤ 16 := by omega
            have HK2 : Hid (q = decide (mn ≤ 128)) := Lib.hid (by rw [HKK.out, decide_eq_true (show 1 ≤ blocks.length ∧ blocks.length ≤ 16 from ⟨b0, b1⟩)]; simp)
            clear b0 b1
            go_wp2_with fail
            refine (HMY.out _ HW1.out.below).mono ?_
            rintro e w2 ⟨rfl, hb2⟩
            have HW2 := Lib.hid (HW1.out.on hb2)
            clear hb2 x0 x1 p0 p1 e0
            by_cases m0 : mn ≤ 128
            · have m0z : ¬ (128 : Int) < mn := by omega
              have HZ : Hid (q = true) := Lib.hid (by rw [HK2.out]; exact decide_eq_true m0)
              clear m0
              go_wp2_with fail
              go_meet
              exact ⟨by rw [HZ.out]; first | rfl | (congr 1; simp; omega), HW2⟩
            · have m0z : (128 : Int) < mn := by omega
              have HZ : Hid (q = false) := Lib.hid (by rw [HK2.out]; exact decide_eq_false m0)
              clear m0
              go_wp2_with fail
              go_meet
              exact ⟨by rw [HZ.out]; first | rfl | (congr 1; simp; omega), HW2⟩
          · have b1z : ¬ (blocks.length : Int) ≤ 16 := by omega
            have HZ : Hid (q = false) := Lib.hid (by rw [HKK.out, decide_eq_false (show ¬ (1 ≤ blocks.length ∧ blocks.length ≤ 16) by omega)]; simp)
            clear b0 b1
            go_wp2_with fail
            go_meet
            exact ⟨by rw [HZ.out]; rfl, HW1⟩
        · have b0z : ¬ (1 : Int) ≤ blocks.length := by omega
          have HZ : Hid (q = false) := Lib.hid (by rw [HKK.out, decide_eq_false (show ¬ (1 ≤ blocks.length ∧ blocks.length ≤ 16) by omega)]; simp)
          clear b0
          go_wp2_with fail
          go_meet
          exact ⟨by rw [HZ.out]; rfl, HW1⟩
      · have k3z : ((kd : Int) != 3) = true := bne_iff_ne.2 (by omega)
        have HZ : Hid (q = false) := Lib.hid (by rw [HKK.out, decide_eq_false k3]; rfl)
        clear k3
        go_wp2_with fail
        go_meet
        exact ⟨by rw [HZ.out]; rfl, HW1⟩
    · have HZ : Hid (q = false) := Lib.hid (by rw [HQ.out, inB_not.2 (by omega)]; rfl)
      go_wp2_with fail
      go_meet
      exact ⟨by rw [HZ.out]; rfl, HW1⟩
  · have HZ : Hid (q = false) := Lib.hid (by rw [HQ.out, inB_not.2 (by omega)]; rfl)
    go_wp2_with fail
    go_meet
    exact ⟨by rw [HZ.out]; rfl, HW1⟩
 case rest =>
  clear HW1
  obtain ⟨rfl, HW1⟩ := hcut
  cases q with
  | false =>
    go_wp2_with fail
    go_ret
    exact ⟨rfl, HW1.out.below⟩
  | true =>
    rw [Bool.not_true]
    have hq3 := HQ.out.symm
    rw [Bool.and_eq_true, inB_iff, Bool.and_eq_true, Bool.and_eq_true, decide_eq_true_eq, decide_eq_true_eq, decide_eq_true_eq] at hq3
    obtain ⟨⟨s0, s1⟩, k3, ⟨b0, b1⟩, m0⟩ := hq3
    have HPB := Lib.hid (fun W hb => HPA.out W hb s0 s1)
    have hrp := HRG.out s1 s0
    obtain ⟨pr, hpr⟩ : ∃ n, (types.getD sig.toNat default).parts.length = n := ⟨_, rfl⟩
    rw [hpr] at HPB hrp
    have hprl : pr ≤ 1000000 := by rw [← hpr]; exact HPP.out _ (mem_getD (d := default) (by omega))
    clear hpr k3 HKD HTR HRG HPA HQ s0 s1
    have b1z : (blocks.length : Int) ≤ 16 := by omega
    have x0 := HW1.out.x.cells 0; have x1 := HW1.out.x.cells 1; have p0 := HW1.out.p.cells 0; have p1 := HW1.out.p.cells 1
    go_upto_region 3 with fail
    refine wp_region_off (by kernel_rfl) (by kernel_rfl) ?_
    rintro W rfl
    have ox0 := fun m => Off.at x0 m
    have ox1 := fun m => Off.at x1 m
    have op0 := fun m => Off.at p0 m
    have op1 := fun m => Off.at p1 m
    repeat (go_big_quiet_step (first | (go_at_call 110; exact Calls.off (HPB.out _ (HW1.out.off _))) | (go_at_call 109; exact Calls.off (HMY.out _ (HW1.out.off _)))))
    refine wpQuiet_nil ?_
    intro w2 hw2
    obtain ⟨⟨w2, hb2⟩, rfl⟩ := hw2
    have HW2 := Lib.hid (HW1.out.on hb2)
    clear hb2 x0 x1 p0 p1 ox0 ox1 op0 op1
    clear HMY HPB
    rw [show (pr : Int) + (mn : Int) = (rg : Int) by omega]
    clear hrp m0 hprl
    go_wp2_with fail
    go_loopw [6] (fun i wr => ∃ k : Nat, k ≤ blocks.length ∧ i = .int .i64 k ∧ Hid (AllTo (blkOk types.length funs.length rg blocks.length) blocks k) ∧ Hid (BoxF w wr w.heap.size (w.heap.size + 1) #[.slice ta types.length tc, .slice fa funs.length fc] #[.int .i64 sig, .slice ba blocks.length bc])) (fun i _ => blocks.length - (intOf i).toNat)
    case atStart => exact ⟨0, Nat.zero_le _, rfl, Lib.hid (AllTo.zero _ _), HW2⟩
    case round =>
     clear HW1 HW2
     obtain ⟨k, hk, rfl, HT, HW1⟩ := hrel
     have x0 := HW1.out.x.cells 0; have x1 := HW1.out.x.cells 1; have p0 := HW1.out.p.cells 0; have p1 := HW1.out.p.cells 1
     by_cases hlt : k < blocks.length
     · obtain ⟨b, off, r, rfl, hb, ⟨c0, c1, c2, c3, c4⟩, hr, HE⟩ := (HX.out.blocks.on HW1.out.below).elem hlt
       have hrl := HL.out.ins _ (mem_getD (d := default) hlt)
       have hxl := HL.out.args _ (mem_getD (d := default) hlt)
       simp only [HE.out] at hrl hxl
       have hk0 : (0 : Int) ≤ (k : Int) := Int.natCast_nonneg _
       have hk1 : (k : Int) < (blocks.length : Int) := by omega
       obtain ⟨ia, ic, ins, kind, ea, et, el⟩ := r
       dsimp only at *
       have HR := Lib.hid hr
       have HXL := Lib.hid hxl
       have HLT := Lib.hid hlt
       obtain ⟨wo, rfl⟩ : ∃ wo : World, wo = wr := ⟨_, rfl⟩
       have HBK := Lib.hid (And.intro hb (And.intro c0 (And.intro c1 (And.intro c2 (And.intro c3 c4)))))
       clear hr hxl hlt
       go_wp2_with fail
       go_loopw [7] (fun i wr => ∃ j : Nat, j ≤ ins.length ∧ i = .int .i64 j ∧ Hid (AllTo (insOk types.length funs.length rg blocks.length) ins j) ∧ Hid (BoxF w wr w.heap.size (w.heap.size + 1) #[.slice ta types.length tc, .slice fa funs.length fc] #[.int .i64 sig, .slice (some ⟨b, off, none⟩) blocks.length bc]) ∧ Hid (Below wo.heap.size wo wr)) (fun i _ => ins.length - (intOf i).toNat)
       case atStart => exact ⟨0, Nat.zero_le _, rfl, Lib.hid (AllTo.zero _ _), HW1, Lib.hid (Below.refl _ _)⟩
       case round =>
        clear x0 x1 p0 p1 c0 c1 c2 c3 c4 hb
        obtain ⟨j, hj, rfl, HTJ, HW3, HB3⟩ := hrel
        obtain ⟨hb, c0, c1, c2, c3, c4⟩ := HBK.out
        replace c0 := (HB3.out.cell (p := ⟨b, off + k * 5, none⟩) hb).trans c0
        replace c1 := (HB3.out.cell (p := ⟨b, off + k * 5 + 1, none⟩) hb).trans c1
        replace c2 := (HB3.out.cell (p := ⟨b, off + k * 5 + 2, none⟩) hb).trans c2
        replace c3 := (HB3.out.cell (p := ⟨b, off + k * 5 + 3, none⟩) hb).trans c3
        replace c4 := (HB3.out.cell (p := ⟨b, off + k * 5 + 4, none⟩) hb).trans c4
        have x0 := HW3.out.x.cells 0; have x1 := HW3.out.x.cells 1; have p0 := HW3.out.p.cells 0; have p1 := HW3.out.p.cells 1
        by_cases hlt : j < ins.length
        · obtain ⟨bx, ox, x, rfl, hbx, ⟨d0, d1, d2, d3, d4, d5, d6⟩, hx, HEX⟩ := (HR.out.ins.on HB3.out).elem hlt
          have hj0 : (0 : Int) ≤ (j : Int) := Int.natCast_nonneg _
          have hj1 : (j : Int) < (ins.length : Int) := by omega
          have hal := HXL.out _ (mem_getD (d := default) hlt)
          rw [HEX.out] at hal
          obtain ⟨z, hz⟩ : ∃ z, insB x.data types.length funs.length rg blocks.length = z := ⟨_, rfl⟩
          have HC := Lib.hid (fun W (hw : Below w.heap.size w W) (hx : x.Ok W) => HMI.out W hw x hx hal rg blocks.length)
          rw [hz] at HC
          have HZ : Hid (insOk types.length funs.length rg blocks.length (ins.getD j default) = z) := Lib.hid (by rw [HEX.out]; exact hz)
          have HXO := Lib.hid hx
          have HLT2 := Lib.hid hlt
          clear hz hal hx hlt
          cases z
          all_goals
           go_wp2_with fail
           refine wp_region_off (by kernel_rfl) (by kernel_rfl) ?_
           rintro W rfl
           have ox0 := fun m => Off.at x0 m
           have ox1 := fun m => Off.at x1 m
           have op0 := fun m => Off.at p0 m
           have op1 := fun m => Off.at p1 m
           have oc0 := fun m => Off.at c0 m
           have od0 := fun m => Off.at d0 m
           have od1 := fun m => Off.at d1 m
           have od2 := fun m => Off.at d2 m
           have od3 := fun m => Off.at d3 m
           have od4 := fun m => Off.at d4 m
           have od5 := fun m => Off.at d5 m
           have od6 := fun m => Off.at d6 m
           repeat (go_big_quiet_step ((go_at_call 111; exact Calls.off (HC.out _ (HW3.out.off _) (HXO.out.on (Off.below _))))))
           refine wpQuiet_nil ?_
           intro w2 hw2
           obtain ⟨⟨w2, hb2⟩, rfl⟩ := hw2
           have HW4 := Lib.hid (HW3.out.on hb2)
           have HB4 := Lib.hid (HB3.out.trans (hb2.mono HB3.out.size))
           clear hb2 x0 x1 p0 p1 ox0 ox1 op0 op1 oc0 od0 od1 od2 od3 od4 od5 od6 d0 d1 d2 d3 d4 d5 d6 c0 c1 c2 c3 c4
           go_wp2_with fail
          · go_ret
            exact ⟨ret_bool (by rw [Bool.true_and]; exact (all_stop (d := default) HLT.out (by rw [HE.out]; unfold blkOk; rw [all_stop (d := default) HLT2.out HZ.out]; rfl)).symm), HW4.out.below⟩
          · go_roundw
            case rel => exact ⟨j + 1, HLT2.out, by go_num, Lib.hid (HTJ.out.step (d := default) HLT2.out HZ.out), HW4, HB4⟩
            case measure => have := HLT2.out; simp [intOf]; omega
        · have HJ := Lib.hid (HTJ.out.done (by omega))
          have hj1 : (j : Int) = ins.length := by omega
          obtain ⟨z, hz⟩ : ∃ z, endB ⟨kind, ea, et, el⟩ rg blocks.length = z := ⟨_, rfl⟩
          have HC := Lib.hid (fun W => rmayEnd_any (w := W) ⟨kind, ea, et, el⟩ rg blocks.length)
          unfold endVal at HC
          dsimp only at HC
          rw [hz] at HC
          have HZ := Lib.hid hz
          clear hz hlt
          cases z
          all_goals
           go_wp2_with fail
           refine wp_region_off (by kernel_rfl) (by kernel_rfl) ?_
           rintro W rfl
           have ox0 := fun m => Off.at x0 m
           have ox1 := fun m => Off.at x1 m
           have oc1 := fun m => Off.at c1 m
           have oc2 := fun m => Off.at c2 m
           have oc3 := fun m => Off.at c3 m
           have oc4 := fun m => Off.at c4 m
           repeat (go_big_quiet_step ((go_at_call 112; exact Calls.off (HC.out _))))
           refine wpQuiet_nil ?_
           intro w2 hw2
           obtain ⟨⟨w2, hb2⟩, rfl⟩ := hw2
           have HW4 := Lib.hid (HW3.out.on hb2)
           clear hb2 x0 x1 p0 p1 ox0 ox1 oc1 oc2 oc3 oc4 c0 c1 c2 c3 c4
           go_wp2_with fail
          · go_ret
            exact ⟨ret_bool (by rw [Bool.true_and]; exact (all_stop (d := default) HLT.out (by rw [HE.out]; unfold blkOk; rw [HZ.out, Bool.and_false])).symm), HW4.out.below⟩
          · go_roundw
            case rel => exact ⟨k + 1, HLT.out, by go_num, Lib.hid (HT.out.step (d := default) HLT.out (by rw [HE.out]; unfold blkOk; rw [HZ.out, HJ.out]; rfl)), HW4⟩
            case measure => have := HLT.out; simp [intOf]; omega
     · go_wp2_with fail
       go_ret
       exact ⟨ret_bool (by rw [Bool.true_and]; exact (HT.out.done (by omega)).symm), HW1.out.below⟩
theorem insInfo : (Tryz.prog.info? 74).map (fun i => (i.zero, i.size, i.bytes)) = some (some (.agg #[.int .u8 0, .int .i64 0, .int .i64 0, .int .i64 0, .int .i64 0, .slice none 0 0, .slice none 0 0]), 7, 88) := by kernel_rfl
theorem blockInfo : (Tryz.prog.info? 71).map (fun i => (i.zero, i.size, i.bytes)) = some (some (.agg #[.slice none 0 0, .int .u8 0, .int .i64 0, .int .i64 0, .int .i64 0]), 5, 56) := by kernel_rfl
theorem funcInfo : (Tryz.prog.info? 64).map (fun i => (i.zero, i.size, i.bytes)) = some (some (.agg #[.int .i64 0, .slice none 0 0]), 2, 32) := by kernel_rfl
theorem wpList_appI {w : World} {ops : Array Oper} {rest : List Oper} {o : Oper} {a : Act} {Q : Exit → Act → World → Prop} (hgd : o.guard = none) (s x : Operand)
 (ho : o.op = .call { callee := .builtin .append, args := #[s, x], argTypes := #[67, 67] })
 (lo : Nat) (v : Value) (rows : List InR) (r : InR) (hs : a.eval s = v) (hown : OwnIns w lo v rows) (hx : a.eval x = .slice (some ⟨w.heap.size, 0, none⟩) 1 1) (hr : r.Own w lo)
 (hlen : rows.length ≤ 1000000) (hbase : lo ≤ w.heap.size)
 (h : ∀ v' w', OwnIns w' lo v' (rows ++ [r]) → (w.alloc (.cells #[.int .u8 r.op, .int .i64 r.ty, .int .i64 r.a, .int .i64 r.b, .int .i64 r.n, .slice r.aa r.args.length r.ac, .slice r.fa r.from_.length r.fc] 74)).grownBy w' v.ownBlock → wpList Tryz.prog ops Q rest (a.put o.dst v') w') :
 wpList Tryz.prog ops Q (o :: rest) a (w.alloc (.cells #[.int .u8 r.op, .int .i64 r.ty, .int .i64 r.a, .int .i64 r.b, .int .i64 r.n, .slice r.aa r.args.length r.ac, .slice r.fa r.from_.length r.fc] 74)) := by
 obtain ⟨i0, hi, hz0, hz1, hz2⟩ := info_parts insInfo
 refine wpList_appS hgd s x 67 74 ho i0 _ 7 88 Tryz.underlying67 hi hz0 hz1 hz2 rfl (by decide) lo v rows.length _ hs hown.row _ hx rfl ?_ hlen (by decide) hbase ?_
 · intro u hu
   simp at hu
   rcases hu with rfl | rfl | rfl | rfl | rfl | rfl | rfl <;> rfl
 · intro v' w' h1 h2
   have hb0 : Below w.heap.size w (w.alloc (.cells #[.int .u8 r.op, .int .i64 r.ty, .int .i64 r.a, .int .i64 r.b, .int .i64 r.n, .slice r.aa r.args.length r.ac, .slice r.fa r.from_.length r.fc] 74)) := (Below.refl _ _).alloc (Nat.le_refl _) _
   exact h v' w' (OwnIns.push (hown.keep hb0) h1 h2 (hr.keep hb0)) h2
theorem wpList_appBl {w : World} {ops : Array Oper} {rest : List Oper} {o : Oper} {a : Act} {Q : Exit → Act → World → Prop} (hgd : o.guard = none) (s x : Operand)
 (ho : o.op = .call { callee := .builtin .append, args := #[s, x], argTypes := #[62, 62] })
 (lo : Nat) (v : Value) (rows : List BlR) (r : BlR) (hs : a.eval s = v) (hown : OwnBls w lo v rows) (hx : a.eval x = .slice (some ⟨w.heap.size, 0, none⟩) 1 1) (hr : r.Own w lo)
 (hlen : rows.length ≤ 1000000) (hbase : lo ≤ w.heap.size)
 (h : ∀ v' w', OwnBls w' lo v' (rows ++ [r]) → (w.alloc (.cells #[.slice r.ia r.ins.length r.ic, .int .u8 r.kind, .int .i64 r.a, .int .i64 r.to, .int .i64 r.els] 71)).grownBy w' v.ownBlock → wpList Tryz.prog ops Q rest (a.put o.dst v') w') :
 wpList Tryz.prog ops Q (o :: rest) a (w.alloc (.cells #[.slice r.ia r.ins.length r.ic, .int .u8 r.kind, .int .i64 r.a, .int .i64 r.to, .int .i64 r.els] 71)) := by
 obtain ⟨i0, hi, hz0, hz1, hz2⟩ := info_parts blockInfo
 refine wpList_appS hgd s x 62 71 ho i0 _ 5 56 Tryz.underlying62 hi hz0 hz1 hz2 rfl (by decide) lo v rows.length _ hs hown.row _ hx rfl ?_ hlen (by decide) hbase ?_
 · intro u hu
   simp at hu
   rcases hu with rfl | rfl | rfl | rfl | rfl <;> rfl
 · intro v' w' h1 h2
   have hb0 : Below w.heap.size w (w.alloc (.cells #[.slice r.ia r.ins.length r.ic, .int .u8 r.kind, .int .i64 r.a, .int .i64 r.to, .int .i64 r.els] 71)) := (Below.refl _ _).alloc (Nat.le_refl _) _
   exact h v' w' (OwnBls.push (hown.keep hb0) h1 h2 ⟨hr.kind, hr.ins.keep hb0⟩) h2
def SomeBlocks (d : List PBlk) (w : World) (e : Ending) (w' : World) : Prop := ∃ v new, e = .returned v ∧ OwnBls w' w.heap.size v new ∧ new.map BlR.data = d ∧ Below w.heap.size w w'
structure PrLim (p : PrR) : Prop where
 parts : ∀ t ∈ p.types, t.parts.length ≤ 1000
 funs : ∀ f ∈ p.funs, FuLim f
 many : p.funs.length ≤ 20000
structure BoxP (w0 w : World) (g1 : Nat) (p : Array Value) : Prop where
 p : Blk w g1 25 p
 below : Below w0.heap.size w0 w
theorem BoxP.on {w0 w w' : World} {g1 : Nat} {p : Array Value} (h : BoxP w0 w g1 p) (hb : Below w.heap.size w w') : BoxP w0 w' g1 p := ⟨h.p.beneath hb, h.below.trans (hb.mono h.below.size)⟩
theorem BoxP.off {w0 w : World} {g1 : Nat} {p : Array Value} (h : BoxP w0 w g1 p) (n : Off w) : Below w0.heap.size w0 n.val := (h.on n.below).below
theorem BoxP.new (w : World) (p : Array Value) : BoxP w (w.alloc (.cells p 25)) w.heap.size p := ⟨Blk.new w _ _, (Below.refl _ _).alloc (Nat.le_refl _) _⟩
theorem rchk_is {w : World} {A : Option Addr} {c : Nat} {rows : List TyR} (h : TabIn w A c rows) {e0 : Int} (he : checkT (tbl rows) = e0) : Calls Tryz.prog 67 #[.slice A rows.length c] w fun e w' => e = .returned (.int .i64 e0) ∧ Below w.heap.size w w' := he ▸ rcheck_any h
def funOk (p : PrR) (f : FuR) : Bool := funB p.data f.data
theorem check_split (p : PrR) {e0 : Int} (h : checkT (tbl p.types) = e0) : checkP p.data = if e0 ≠ 0 then e0 else if (1 ≤ p.funs.length ∧ p.funs.length ≤ 8) ∧ p.funs.all (funOk p) = true then 0 else 60 := by
 unfold checkP
 have h1 : p.data.types = tbl p.types := rfl
 have h2 : p.data.funs.length = p.funs.length := List.length_map ..
 have h3 : p.data.funs.all (funB p.data) = p.funs.all (funOk p) := by
  show (p.funs.map FuR.data).all _ = _
  rw [List.all_map]
  rfl
 rw [h1, h, h2, h3]
set_option maxRecDepth 100000 in
set_option maxHeartbeats 1600000 in
theorem rpcheck_any {w : World} {p : PrR} (h : ProgIn w p) (hl : PrLim p) :
 Calls Tryz.prog 28 #[p.val] w fun e w' => e = .returned (.int .i64 (checkP p.data)) ∧ Below w.heap.size w w' := by
 have hpl := h.types.len
 have hfl := h.funs.hdr.cle
 have HP := Lib.hid h
 have HL := Lib.hid hl
 obtain ⟨e0, he⟩ : ∃ e, checkT (tbl p.types) = e := ⟨_, rfl⟩
 obtain ⟨r, hr⟩ : ∃ e, checkP p.data = e := ⟨_, rfl⟩
 rw [hr]
 obtain ⟨P, hP⟩ : ∃ P, funOk p = P := ⟨_, rfl⟩
 have HR : Hid (r = if e0 ≠ 0 then e0 else if (1 ≤ p.funs.length ∧ p.funs.length ≤ 8) ∧ p.funs.all P = true then 0 else 60) := Lib.hid (by rw [← hr, ← hP]; exact check_split p he)
 have HE := Lib.hid he
 have HMF : Hid (∀ W, Below w.heap.size w W → ∀ f : FuR, f.Ok W → FuLim f → ∀ z : Bool, P f = z → Calls Tryz.prog 68 #[p.val, f.val] W fun e w' => e = .returned (.bool z) ∧ Below W.heap.size W w') := Lib.hid (by
  intro W hb f hf hl' z hz
  rw [← hz, ← hP]
  exact rmayFunc_any (h.on hb) (fun t ht => Nat.le_trans (hl.parts t ht) (by omega)) f hf hl')
 unfold PrR.val at *
 clear h hl hr he hP
 obtain ⟨ta, tc, types, fa, fc, funs⟩ := p
 dsimp only at *
 have HW1 := Lib.hid (BoxP.new w #[.slice ta types.length tc, .slice fa funs.length fc])
 have x0 := HW1.out.p.cells 0
 have x1 := HW1.out.p.cells 1
 go_enter Tryz.func28, Tryz.ntmps28
 go_wp2_with fail
 refine (rchk_is (HP.out.types.on HW1.out.below) HE.out).mono ?_
 rintro e w2 ⟨rfl, hb2⟩
 have HW2 := Lib.hid (HW1.out.on hb2)
 clear hb2 x0 x1
 by_cases z : e0 = 0
 · subst z
   have HR2 : Hid (r = if (1 ≤ funs.length ∧ funs.length ≤ 8) ∧ funs.all P = true then 0 else 60) := Lib.hid (by rw [HR.out]; exact if_neg (by decide))
   clear HR
   go_wp2_with fail
   go_loopw [4] (fun i wr => ∃ k : Nat, k ≤ funs.length ∧ i = .int .i64 k ∧ Hid (AllTo P funs k) ∧ Hid (BoxP w wr w.heap.size #[.slice ta types.length tc, .slice fa funs.length fc])) (fun i _ => funs.length - (intOf i).toNat)
   case atStart => exact ⟨0, Nat.zero_le _, rfl, Lib.hid (AllTo.zero _ _), HW2⟩
   case round =>
    clear HW1 HW2
    obtain ⟨k, hk, rfl, HT, HW1⟩ := hrel
    have x0 := HW1.out.p.cells 0
    have x1 := HW1.out.p.cells 1
    by_cases hlt : k < funs.length
    · obtain ⟨b, off, f, rfl, hb, ⟨c0, c1⟩, hf, HEF⟩ := (HP.out.funs.on HW1.out.below).elem hlt
      have hfl := HL.out.funs _ (mem_getD (d := default) hlt)
      dsimp only at hfl
      rw [HEF.out] at hfl
      have hk0 : (0 : Int) ≤ (k : Int) := Int.natCast_nonneg _
      have hk1 : (k : Int) < (funs.length : Int) := by omega
      obtain ⟨z, hz⟩ : ∃ z, P f = z := ⟨_, rfl⟩
      have HC := Lib.hid (fun W (hb : Below w.heap.size w W) (hf : f.Ok W) => HMF.out W hb f hf hfl z hz)
      have HZ : Hid (P (funs.getD k default) = z) := Lib.hid (by rw [HEF.out]; exact hz)
      have HFO := Lib.hid hf
      have HLT := Lib.hid hlt
      clear hz hfl hf hlt
      cases z
      all_goals
       go_wp2_with fail
       refine wp_region_off (by kernel_rfl) (by kernel_rfl) ?_
       rintro W rfl
       have ox0 := fun m => Off.at x0 m
       have ox1 := fun m => Off.at x1 m
       have oc0 := fun m => Off.at c0 m
       have oc1 := fun m => Off.at c1 m
       repeat (go_big_quiet_step ((go_at_call 68; exact Calls.off (HC.out _ (HW1.out.off _) (HFO.out.on (Off.below _))))))
       refine wpQuiet_nil ?_
       intro w2 hw2
       obtain ⟨⟨w2, hb2⟩, rfl⟩ := hw2
       have HW4 := Lib.hid (HW1.out.on hb2)
       clear hb2 x0 x1 ox0 ox1 oc0 oc1 c0 c1
       go_wp2_with fail
      · go_ret
        exact ⟨ret_num (by rw [HR2.out, if_neg (fun hh => by rw [all_stop (d := default) HLT.out HZ.out] at hh; cases hh.2)]), HW4.out.below⟩
      · go_roundw
        case rel => exact ⟨k + 1, HLT.out, by go_num, Lib.hid (HT.out.step (d := default) HLT.out HZ.out), HW4⟩
        case measure => have := HLT.out; simp [intOf]; omega
    · have HA := Lib.hid (HT.out.done (by omega))
      have hkz : (k : Int) = funs.length := by omega
      clear hlt
      by_cases l0 : 1 ≤ funs.length
      · have l0z : (1 : Int) ≤ funs.length := by omega
        by_cases l1 : funs.length ≤ 8
        · have l1z : (funs.length : Int) ≤ 8 := by omega
          have HZ : Hid (r = 0) := Lib.hid (by rw [HR2.out, if_pos ⟨⟨l0, l1⟩, HA.out⟩])
          clear l0 l1
          go_wp2_with fail
          go_ret
          exact ⟨ret_num HZ.out.symm, HW1.out.below⟩
        · have l1z : ¬ (funs.length : Int) ≤ 8 := by omega
          have HZ : Hid (r = 60) := Lib.hid (by rw [HR2.out, if_neg (fun hh => l1 hh.1.2)])
          clear l0 l1
          go_wp2_with fail
          go_ret
          exact ⟨ret_num HZ.out.symm, HW1.out.below⟩
      · have l0z : ¬ (1 : Int) ≤ funs.length := by omega
        have HZ : Hid (r = 60) := Lib.hid (by rw [HR2.out, if_neg (fun hh => l0 hh.1.1)])
        clear l0
        go_wp2_with fail
        go_ret
        exact ⟨ret_num HZ.out.symm, HW1.out.below⟩
 · have HZ : Hid (r = e0) := Lib.hid (by rw [HR.out, if_pos z])
   have ez : (e0 != 0) = true := bne_iff_ne.2 z
   clear z
   go_wp2_with fail
   go_ret
   exact ⟨ret_num HZ.out.symm, HW2.out.below⟩
theorem rpcheck_is {w : World} {p : PrR} (h : ProgIn w p) (hl : PrLim p) {e0 : Int} (he : checkP p.data = e0) :
 Calls Tryz.prog 28 #[p.val] w fun e w' => e = .returned (.int .i64 e0) ∧ Below w.heap.size w w' := he ▸ rpcheck_any h hl
end Go.Proofs.YtbffebcjimhapaaGreatDoor
