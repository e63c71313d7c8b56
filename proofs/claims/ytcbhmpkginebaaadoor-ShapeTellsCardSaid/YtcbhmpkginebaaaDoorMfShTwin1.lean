/-
  The reference's Twin of blocks: blocks of the call's own that tell the same.
-/
import Derived.Test.YtcbhmpkginebaaaDoorMg14
import Derived.Test.YtcbhmpkginebaaaDoorMfShOwn
namespace Go.Proofs.YtcbhmpkginebaaaDoor
set_option linter.unusedVariables false
set_option linter.unusedSimpArgs false
open Go.ChangeShapes Go.WideShapes Go.ChangeAt Go.RowKit

theorem insInfo : (Tryd.prog.info? 24).map (fun i => (i.zero, i.size, i.bytes)) = some (some (.agg #[.int .u8 0, .int .i64 0, .int .i64 0, .int .i64 0, .int .i64 0, .slice none 0 0, .slice none 0 0]), 7, 88) := by kernel_rfl
theorem blockInfo : (Tryd.prog.info? 58).map (fun i => (i.zero, i.size, i.bytes)) = some (some (.agg #[.slice none 0 0, .int .u8 0, .int .i64 0, .int .i64 0, .int .i64 0]), 5, 56) := by kernel_rfl
theorem funcInfo : (Tryd.prog.info? 55).map (fun i => (i.zero, i.size, i.bytes)) = some (some (.agg #[.int .i64 0, .slice none 0 0]), 2, 32) := by kernel_rfl
/-- append of an instruction that has just been laid in a block of its own. -/
theorem wpList_appI {w : World} {ops : Array Oper} {rest : List Oper} {o : Oper} {a : Act} {Q : Exit → Act → World → Prop} (hgd : o.guard = none) (s x : Operand)
    (ho : o.op = .call { callee := .builtin .append, args := #[s, x], argTypes := #[56, 56] })
    (lo : Nat) (v : Value) (rows : List InR) (r : InR) (hs : a.eval s = v) (hown : OwnIns w lo v rows) (hx : a.eval x = .slice (some ⟨w.heap.size, 0, none⟩) 1 1) (hr : r.Own w lo)
    (hlen : rows.length ≤ 1000000) (hbase : lo ≤ w.heap.size)
    (h : ∀ v' w', OwnIns w' lo v' (rows ++ [r]) → (w.alloc (.cells #[.int .u8 r.op, .int .i64 r.ty, .int .i64 r.a, .int .i64 r.b, .int .i64 r.n, .slice r.aa r.args.length r.ac, .slice r.fa r.from_.length r.fc] 24)).grownBy w' v.ownBlock → wpList Tryd.prog ops Q rest (a.put o.dst v') w') :
    wpList Tryd.prog ops Q (o :: rest) a (w.alloc (.cells #[.int .u8 r.op, .int .i64 r.ty, .int .i64 r.a, .int .i64 r.b, .int .i64 r.n, .slice r.aa r.args.length r.ac, .slice r.fa r.from_.length r.fc] 24)) := by
  obtain ⟨i0, hi, hz0, hz1, hz2⟩ := info_parts insInfo
  refine wpList_appS hgd s x 56 24 ho i0 _ 7 88 Tryd.underlying56 hi hz0 hz1 hz2 rfl (by decide) lo v rows.length _ hs hown.row _ hx rfl ?_ hlen (by decide) hbase ?_
  · intro u hu
    simp at hu
    rcases hu with rfl | rfl | rfl | rfl | rfl | rfl | rfl <;> rfl
  · intro v' w' h1 h2
    have hb0 : Below w.heap.size w (w.alloc (.cells #[.int .u8 r.op, .int .i64 r.ty, .int .i64 r.a, .int .i64 r.b, .int .i64 r.n, .slice r.aa r.args.length r.ac, .slice r.fa r.from_.length r.fc] 24)) := (Below.refl _ _).alloc (Nat.le_refl _) _
    exact h v' w' (OwnIns.push (hown.keep hb0) h1 h2 (hr.keep hb0)) h2
/-- append of a block. -/
theorem wpList_appBl {w : World} {ops : Array Oper} {rest : List Oper} {o : Oper} {a : Act} {Q : Exit → Act → World → Prop} (hgd : o.guard = none) (s x : Operand)
    (ho : o.op = .call { callee := .builtin .append, args := #[s, x], argTypes := #[53, 53] })
    (lo : Nat) (v : Value) (rows : List BlR) (r : BlR) (hs : a.eval s = v) (hown : OwnBls w lo v rows) (hx : a.eval x = .slice (some ⟨w.heap.size, 0, none⟩) 1 1) (hr : r.Own w lo)
    (hlen : rows.length ≤ 1000000) (hbase : lo ≤ w.heap.size)
    (h : ∀ v' w', OwnBls w' lo v' (rows ++ [r]) → (w.alloc (.cells #[.slice r.ia r.ins.length r.ic, .int .u8 r.kind, .int .i64 r.a, .int .i64 r.to, .int .i64 r.els] 58)).grownBy w' v.ownBlock → wpList Tryd.prog ops Q rest (a.put o.dst v') w') :
    wpList Tryd.prog ops Q (o :: rest) a (w.alloc (.cells #[.slice r.ia r.ins.length r.ic, .int .u8 r.kind, .int .i64 r.a, .int .i64 r.to, .int .i64 r.els] 58)) := by
  obtain ⟨i0, hi, hz0, hz1, hz2⟩ := info_parts blockInfo
  refine wpList_appS hgd s x 53 58 ho i0 _ 5 56 Tryd.underlying53 hi hz0 hz1 hz2 rfl (by decide) lo v rows.length _ hs hown.row _ hx rfl ?_ hlen (by decide) hbase ?_
  · intro u hu
    simp at hu
    rcases hu with rfl | rfl | rfl | rfl | rfl <;> rfl
  · intro v' w' h1 h2
    have hb0 : Below w.heap.size w (w.alloc (.cells #[.slice r.ia r.ins.length r.ic, .int .u8 r.kind, .int .i64 r.a, .int .i64 r.to, .int .i64 r.els] 58)) := (Below.refl _ _).alloc (Nat.le_refl _) _
    exact h v' w' (OwnBls.push (hown.keep hb0) h1 h2 ⟨hr.kind, hr.ins.keep hb0⟩) h2
def SomeBlocks (d : List PBlk) (w : World) (e : Ending) (w' : World) : Prop := ∃ v new, e = .returned v ∧ OwnBls w' w.heap.size v new ∧ new.map BlR.data = d ∧ Below w.heap.size w w'
set_option maxRecDepth 100000 in
set_option maxHeartbeats 3200000 in
theorem rtwinBlocks_any {w : World} (f : FuR) (h : f.Ok w) (hf : FuLim f) :
    Calls Tryd.prog 38 #[.slice f.ba f.blocks.length f.bc] w (SomeBlocks (f.blocks.map BlR.data) w) := by
  have HX := Lib.hid h.blocks
  have HL := Lib.hid hf
  have hrl : f.blocks.length ≤ 1000 := hf.blocks
  obtain ⟨sig, A, c, rows⟩ := f
  dsimp only at *
  clear h hf
  go_enter Tryd.func38, Tryd.ntmps38
  go_wp2_with fail
  go_loopw [3, 4] (fun v i wr => ∃ (k : Nat) (new : List BlR), k ≤ rows.length ∧ i = .int .i64 k ∧ Hid (new.length = k) ∧ Hid (OwnBls wr w.heap.size v new) ∧ Hid (new.map BlR.data = (rows.map BlR.data).take k) ∧ Hid (Below w.heap.size w wr)) (fun _ i _ => rows.length - (intOf i).toNat)
  case atStart => exact ⟨0, [], Nat.zero_le _, rfl, Lib.hid rfl, Lib.hid (OwnBls.nil _ _), Lib.hid rfl, Lib.hid (Below.refl _ _)⟩
  case round =>
    obtain ⟨k, new, hk, rfl, HNL, HO, HT, HB⟩ := hrel
    by_cases hlt : k < rows.length
    · obtain ⟨b, off, r, rfl, hb, ⟨c0, c1, c2, c3, c4⟩, hr, HE⟩ := (HX.out.on HB.out).elem hlt
      have hil := HL.out.ins _ (mem_getD (d := default) hlt)
      have hal := HL.out.args _ (mem_getD (d := default) hlt)
      have hfl := HL.out.froms _ (mem_getD (d := default) hlt)
      simp only [HE.out] at hil hal hfl
      have HSZ := Lib.hid HB.out.size
      have hk0 : (0 : Int) ≤ (k : Int) := Int.natCast_nonneg _
      have hk1 : (k : Int) < (rows.length : Int) := by omega
      have HDT : Hid ((rows.map BlR.data).getD k default = r.data) := Lib.hid (by rw [map_getD BlR.data rows hlt, HE.out])
      obtain ⟨ia, ic, ins, kind, ea, et, el⟩ := r
      dsimp only at *
      have HR := Lib.hid hr
      have HAL := Lib.hid hal
      have HFL := Lib.hid hfl
      have HLT := Lib.hid hlt
      obtain ⟨wo, rfl⟩ : ∃ wo : World, wo = wr := ⟨_, rfl⟩
      have HBK := Lib.hid (And.intro hb (And.intro c0 (And.intro c1 (And.intro c2 (And.intro c3 c4)))))
      have HK0 := Lib.hid (Blk.new wo 58 #[.slice none 0 0, .int .u8 kind, .int .i64 ea, .int .i64 et, .int .i64 el])
      clear hr hal hfl hlt
      go_wp2_with fail
      go_loopw [6] (fun i wr => ∃ (j : Nat) (nw : List InR) (A' : Option Addr) (c' : Nat), j ≤ ins.length ∧ i = .int .i64 j ∧ Hid (nw.length = j) ∧ Hid (OwnIns wr wo.heap.size (.slice A' j c') nw) ∧ Hid (nw.map InR.data = (ins.map InR.data).take j) ∧ Hid (Blk wr wo.heap.size 58 #[.slice A' j c', .int .u8 kind, .int .i64 ea, .int .i64 et, .int .i64 el]) ∧ Hid (Below wo.heap.size wo wr)) (fun i _ => ins.length - (intOf i).toNat)
      case atStart => exact ⟨0, [], none, 0, Nat.zero_le _, rfl, Lib.hid rfl, Lib.hid (OwnIns.nil _ _), Lib.hid rfl, HK0, Lib.hid (Below.refl _ _).alloc (Nat.le_refl _) _⟩
      case round =>
        clear c0 c1 c2 c3 c4 hb HK0
        obtain ⟨j, nw, A', c', hj, rfl, HNJ, HOJ, HTJ, HKJ, HBJ⟩ := hrel
        obtain ⟨hb, c0, c1, c2, c3, c4⟩ := HBK.out
        replace c0 := (HBJ.out.cell (p := ⟨b, off + k * 5, none⟩) hb).trans c0
        clear c1 c2 c3 c4
        have g0 := HKJ.out.cells 0
        by_cases hlt : j < ins.length
        · obtain ⟨bx, ox, x, rfl, hbx, ⟨d0, d1, d2, d3, d4, d5, d6⟩, hx, HEX⟩ := (HR.out.ins.on HBJ.out).elem hlt
          have hj0 : (0 : Int) ≤ (j : Int) := Int.natCast_nonneg _
          have hj1 : (j : Int) < (ins.length : Int) := by omega
          have hax := HAL.out _ (mem_getD (d := default) hlt)
          have hfx := HFL.out _ (mem_getD (d := default) hlt)
          simp only [HEX.out] at hax hfx
          have HDX : Hid ((ins.map InR.data).getD j default = x.data) := Lib.hid (by rw [map_getD InR.data ins hlt, HEX.out])
          obtain ⟨op, ty, xa, xb, xn, aa, ac, args, fa, fc, from_⟩ := x
          dsimp only at *
          have HXO := Lib.hid hx
          have HLT2 := Lib.hid hlt
          have HAX := Lib.hid hax
          have HFX := Lib.hid hfx
          have HLO : Hid (wo.heap.size ≤ wr.heap.size) := Lib.hid HBJ.out.size
          -- the instruction's own box, and an empty list
          have HB1 : Hid (Below wr.heap.size wr ((wr.alloc (.cells #[.int .u8 op, .int .i64 ty, .int .i64 xa, .int .i64 xb, .int .i64 xn, .slice aa args.length ac, .slice fa from_.length fc] 24)).alloc (.cells #[] 3))) := Lib.hid (((Below.refl _ _).alloc (Nat.le_refl _) _).alloc (by simp) _)
          have HZ : Hid (∀ x, OwnInts ((wr.alloc x).alloc (.cells #[] 3)) wo.heap.size (.slice (some ⟨wr.heap.size + 1, 0, none⟩) 0 0) []) := Lib.hid fun x => OwnInts.zero _ _ _ (by rw [World.size_alloc]; have := HLO.out; omega) (by rw [World.size_alloc])
          have HK0 : Hid (Blk ((wr.alloc (.cells #[.int .u8 op, .int .i64 ty, .int .i64 xa, .int .i64 xb, .int .i64 xn, .slice aa args.length ac, .slice fa from_.length fc] 24)).alloc (.cells #[] 3)) wr.heap.size 24 #[.int .u8 op, .int .i64 ty, .int .i64 xa, .int .i64 xb, .int .i64 xn, .slice aa args.length ac, .slice fa from_.length fc]) := Lib.hid ((Blk.new _ _ _).alloc _)
          clear hx hlt hax hfx
          go_wp2_with (at_builtin; refine wpList_appN rfl (.tmp 38) (.tmp 40) rfl wo.heap.size 0 wr.heap.size _ [] rfl (HZ.out _) aa args.length ac args rfl rfl HXO.out.ahdr.nil (HXO.out.args.keep HB1.out) (by have := HAX.out; simp; omega) (by have := HLO.out; simp; omega) ?_; intro v1 w1 hown1 hg1; refine pause ?_)
          have hB1 := HB1.out.grown hg1 HB1.out.size (fun k hk => by have : wr.heap.size + 1 = k := Option.some.inj hk; omega)
          have hK1 := HK0.out.grown hg1 (fun h => by have : wr.heap.size + 1 = wr.heap.size := Option.some.inj h; omega)
          rw [List.nil_append] at hown1
          obtain ⟨A1, c1, rfl, hnil1, hints1, hle1, hcap1⟩ := hown1.form
          have HB2 : Hid (Below wr.heap.size wr (w1.setCell ⟨wr.heap.size, 5, none⟩ (.slice A1 args.length c1))) := Lib.hid (hB1.setCell (Nat.le_refl _) _)
          have HO2 : Hid (OwnInts (w1.setCell ⟨wr.heap.size, 5, none⟩ (.slice A1 args.length c1)) wo.heap.size (.slice A1 args.length c1) args) := Lib.hid (hown1.far hK1 (by decide))
          have HK2 : Hid (Blk (w1.setCell ⟨wr.heap.size, 5, none⟩ (.slice A1 args.length c1)) wr.heap.size 24 #[.int .u8 op, .int .i64 ty, .int .i64 xa, .int .i64 xb, .int .i64 xn, .slice A1 args.length c1, .slice fa from_.length fc]) := Lib.hid (hK1.put 5 _)
          have k5 := hK1.cells 5
          have f5 := hK1.free 5
          clear hB1 hK1 hown1 hg1 hnil1 hints1 hle1 hcap1 HZ HB1 HK0
          -- the other list
          have HB3 : Hid (Below wr.heap.size wr ((w1.setCell ⟨wr.heap.size, 5, none⟩ (.slice A1 args.length c1)).alloc (.cells #[] 3))) := Lib.hid (HB2.out.alloc HB2.out.size _)
          have HZ : Hid (OwnInts ((w1.setCell ⟨wr.heap.size, 5, none⟩ (.slice A1 args.length c1)).alloc (.cells #[] 3)) wo.heap.size (.slice (some ⟨w1.heap.size, 0, none⟩) 0 0) []) := Lib.hid (OwnInts.zero _ _ _ (Nat.le_trans HLO.out HB2.out.size) (size_set _ _ _).symm)
          have HK3 : Hid (Blk ((w1.setCell ⟨wr.heap.size, 5, none⟩ (.slice A1 args.length c1)).alloc (.cells #[] 3)) wr.heap.size 24 #[.int .u8 op, .int .i64 ty, .int .i64 xa, .int .i64 xb, .int .i64 xn, .slice A1 args.length c1, .slice fa from_.length fc]) := Lib.hid (HK2.out.alloc _)
          have HO3 : Hid (OwnInts ((w1.setCell ⟨wr.heap.size, 5, none⟩ (.slice A1 args.length c1)).alloc (.cells #[] 3)) wo.heap.size (.slice A1 args.length c1) args) := Lib.hid (HO2.out.keep ((Below.refl _ _).alloc (Nat.le_refl _) _))
          have k6 := HK3.out.cells 6
          refine resume ?_
          go_wp2_with (at_builtin; refine wpList_appN rfl (.tmp 43) (.tmp 45) rfl wo.heap.size 0 wr.heap.size _ [] rfl HZ.out fa from_.length fc from_ rfl rfl HXO.out.fhdr.nil (HXO.out.from_.keep HB3.out) (by have := HFX.out; simp; omega) (by have := Nat.le_trans HLO.out HB3.out.size; exact this) ?_; intro v2 w2 hown2 hg2; refine pause ?_)
          have hB4 := HB3.out.grown hg2 HB3.out.size (fun k hk => by have : w1.heap.size = k := Option.some.inj hk; have := HB2.out.size; rw [size_set] at this; omega)
          have hK4 := HK3.out.grown hg2 (fun h => by have : w1.heap.size = wr.heap.size := Option.some.inj h; have := HK2.out.lt; rw [size_set] at this; omega)
          have hO4 : OwnInts w2 wo.heap.size (.slice A1 args.length c1) args := World.ownsRow.kept HO3.out hg2 (by
            cases hq : (Value.slice A1 args.length c1).ownBlock with
            | none => exact .inl rfl
            | some q =>
              right
              intro e
              have hq1 := (World.ownsRow.lt HO2.out q hq).2
              rw [size_set] at hq1
              have : q = w1.heap.size := Option.some.inj e
              omega)
          rw [List.nil_append] at hown2
          obtain ⟨A2, c2, rfl, hnil2, hints2, hle2, hcap2⟩ := hown2.form
          have HB5 : Hid (Below wr.heap.size wr (w2.setCell ⟨wr.heap.size, 6, none⟩ (.slice A2 from_.length c2))) := Lib.hid (hB4.setCell (Nat.le_refl _) _)
          have HO5 : Hid (OwnInts (w2.setCell ⟨wr.heap.size, 6, none⟩ (.slice A2 from_.length c2)) wo.heap.size (.slice A1 args.length c1) args) := Lib.hid (hO4.far hK4 (by decide))
          have HO6 : Hid (OwnInts (w2.setCell ⟨wr.heap.size, 6, none⟩ (.slice A2 from_.length c2)) wo.heap.size (.slice A2 from_.length c2) from_) := Lib.hid (hown2.far hK4 (by decide))
          have HK5 : Hid (Blk (w2.setCell ⟨wr.heap.size, 6, none⟩ (.slice A2 from_.length c2)) wr.heap.size 24 #[.int .u8 op, .int .i64 ty, .int .i64 xa, .int .i64 xb, .int .i64 xn, .slice A1 args.length c1, .slice A2 from_.length c2]) := Lib.hid (hK4.put 6 _)
          have HG5 : Hid (Blk (w2.setCell ⟨wr.heap.size, 6, none⟩ (.slice A2 from_.length c2)) wo.heap.size 58 #[.slice A' j c', .int .u8 kind, .int .i64 ea, .int .i64 et, .int .i64 el]) := Lib.hid (HKJ.out.beneath HB5.out)
          have m0 := hK4.cells 0
          have m1 := hK4.cells 1
          have m2 := hK4.cells 2
          have m3 := hK4.cells 3
          have m4 := hK4.cells 4
          have m5 := hK4.cells 5
          have m6 := hK4.cells 6
          have f6 := hK4.free 6
          have n0 := HG5.out.cells 0
          have hgn : wo.heap.size ≠ wr.heap.size := by have := HKJ.out.lt; omega
          clear hB4 hK4 hO4 hown2 hg2 hnil2 hints2 hle2 hcap2 HZ k5 k6 f5 HO3 HK3 HB3
          refine resume ?_
          have hop : op ≤ 255 := HXO.out.op
          go_wp2_with (at_builtin; refine wpList_appI rfl (.tmp 49) (.tmp 51) rfl wo.heap.size _ nw ⟨op, ty, xa, xb, xn, A1, c1, args, A2, c2, from_⟩ rfl (HOJ.out.keep HB5.out) (by rw [size_set]; rfl) ⟨hop, HO5.out, HO6.out⟩ (by have := HNJ.out; omega) (Nat.le_trans HLO.out HB5.out.size) ?_; intro v3 w3 hown3 hg3; refine pause ?_)
          have hG6 := (HG5.out.alloc (.cells #[.int .u8 op, .int .i64 ty, .int .i64 xa, .int .i64 xb, .int .i64 xn, .slice A1 args.length c1, .slice A2 from_.length c2] 24)).grown hg3 (own_ne (HOJ.out.keep HB5.out).row HG5.out (by decide))
          have hB6 : Below wo.heap.size wo w3 := Below.grown ((HBJ.out.trans (HB5.out.mono HBJ.out.size)).alloc (Nat.le_trans HBJ.out.size HB5.out.size) _) hg3 (by rw [World.size_alloc]; have := Nat.le_trans HBJ.out.size HB5.out.size; omega) (fun k hk => (HOJ.out.row.lt k hk).1)
          obtain ⟨A3, c3, rfl, hi3⟩ := hown3.form
          have hlen3 : (nw ++ [(⟨op, ty, xa, xb, xn, A1, c1, args, A2, c2, from_⟩ : InR)]).length = j + 1 := by rw [List.length_append, HNJ.out]; rfl
          rw [hlen3] at hown3
          rw [hlen3]
          have HO7 : Hid (OwnIns (w3.setCell ⟨wo.heap.size, 0, none⟩ (.slice A3 (j + 1 : Nat) c3)) wo.heap.size (.slice A3 (j + 1 : Nat) c3) (nw ++ [(⟨op, ty, xa, xb, xn, A1, c1, args, A2, c2, from_⟩ : InR)])) := Lib.hid (hown3.spare (Spare.set hG6 _) (by decide) (by decide))
          have HK7 : Hid (Blk (w3.setCell ⟨wo.heap.size, 0, none⟩ (.slice A3 (j + 1 : Nat) c3)) wo.heap.size 58 #[.slice A3 (j + 1 : Nat) c3, .int .u8 kind, .int .i64 ea, .int .i64 et, .int .i64 el]) := Lib.hid (hG6.put 0 _)
          have HB7 : Hid (Below wo.heap.size wo (w3.setCell ⟨wo.heap.size, 0, none⟩ (.slice A3 (j + 1 : Nat) c3))) := Lib.hid (hB6.setCell (Nat.le_refl _) _)
          have q0 := hG6.cells 0
          have q1 := hG6.free 0
          clear hG6 hB6 hown3 hg3 hlen3 hi3 m0 m1 m2 m3 m4 m5 m6 f6 n0
          refine resume ?_
          go_wp2_with fail
          go_roundw
          case rel => exact ⟨j + 1, _, A3, c3, by have := HLT2.out; omega, by go_num, Lib.hid (by rw [List.length_append, HNJ.out]; rfl), HO7.out |> Lib.hid, Lib.hid (by rw [List.map_append, HTJ.out, take_succ_getD (d := default) (by rw [List.length_map]; exact HLT2.out), HDX.out]; rfl), HK7, HB7⟩
          case measure => simp [intOf]; have := HLT2.out; omega
        · obtain rfl : j = ins.length := by omega
          have hjn := HNJ.out
          have g1 := HKJ.out.cells 1
          have g2 := HKJ.out.cells 2
          have g3 := HKJ.out.cells 3
          have g4 := HKJ.out.cells 4
          have HKD := Lib.hid HR.out.kind
          have HLO : Hid (w.heap.size ≤ wr.heap.size) := Lib.hid (Nat.le_trans HSZ.out HBJ.out.size)
          have hkd : kind ≤ 255 := HR.out.kind
          have HRO : Hid (BlR.Own wr w.heap.size ⟨A', c', nw, kind, ea, et, el⟩) := Lib.hid ⟨hkd, by show OwnIns wr w.heap.size (.slice A' nw.length c') nw; rw [hjn]; exact HOJ.out.more HSZ.out⟩
          have HDD : Hid (BlR.data ⟨A', c', nw, kind, ea, et, el⟩ = BlR.data ⟨ia, ic, ins, kind, ea, et, el⟩) := Lib.hid (by
            have := HTJ.out
            rw [List.take_of_length_le (by rw [List.length_map]; exact Nat.le_refl _)] at this
            unfold BlR.data
            rw [this])
          rw [← hjn] at g0
          clear hjn hkd
          go_wp2_with (at_builtin; refine wpList_appBl rfl (.tmp 54) (.tmp 56) rfl w.heap.size _ new ⟨A', c', nw, kind, ea, et, el⟩ rfl (HO.out.keep HBJ.out) rfl HRO.out (by have := HNL.out; omega) HLO.out ?_; intro v3 w3 hown3 hg3; refine pause ?_)
          have HB8 := Lib.hid (Below.grown ((HB.out.trans (HBJ.out.mono HSZ.out)).alloc HLO.out _) hg3 (by rw [World.size_alloc]; have := HLO.out; omega) (fun k hk => (HO.out.row.lt k hk).1))
          have HO8 := Lib.hid hown3
          clear hown3 hg3 g0 g1 g2 g3 g4
          refine resume ?_
          go_wp2_with fail
          go_roundw
          case rel => exact ⟨k + 1, _, by have := HLT.out; omega, by go_num, Lib.hid (by rw [List.length_append, HNL.out]; rfl), HO8, Lib.hid (by rw [List.map_append, HT.out, take_succ_getD (d := default) (by rw [List.length_map]; exact HLT.out), HDT.out, ← HDD.out]; rfl), HB8⟩
          case measure => simp [intOf]; have := HLT.out; omega
    · go_wp2_with fail
      go_ret
      exact ⟨_, new, rfl, HO.out, by have := HT.out; rwa [List.take_of_length_le (by rw [List.length_map]; omega)] at this, HB.out⟩
end Go.Proofs.YtcbhmpkginebaaaDoor
