/-
  The reference's Twin of programs: a program of the call's own that tells the same.
-/
import Derived.Test.YtcbhmpkginebaaaDoorMg14
import Derived.Test.YtcbhmpkginebaaaDoorMfShTwin1
import Derived.Test.YtcbhmpkginebaaaDoorMfHeldT
import Derived.Deep.AppendLies
namespace Go.Proofs.YtcbhmpkginebaaaDoor
set_option linter.unusedVariables false
set_option linter.unusedSimpArgs false
open Go.ChangeShapes Go.WideShapes Go.ChangeAt Go.RowKit

/-- append of a function, as one step of a region that draws its order. -/
theorem step_appF {w : World} {ops : Array Oper} {o : Oper} {a : Act} {K : Act → World → Prop} {Q : Exit → Act → World → Prop} {E : Prop} (hgd : o.guard = none) (s x : Operand)
    (ho : o.op = .call { callee := .builtin .append, args := #[s, x], argTypes := #[33, 33] })
    (lo : Nat) (v : Value) (rows : List FuR) (r : FuR) (hs : a.eval s = v) (hown : OwnFus w lo v rows) (B : Nat) (hx : a.eval x = .slice (some ⟨B, 0, none⟩) 1 1)
    (hB : Blk w B 55 #[.int .i64 r.sig, .slice r.ba r.blocks.length r.bc]) (hr : r.Own w lo) (hlo : lo ≤ w.heap.size) (hlen : rows.length ≤ 1000000)
    (h : ∀ v' w', OwnFus w' lo v' (rows ++ [r]) → w.grownBy w' v.ownBlock → K (a.put o.dst v') w') :
    if Region.wanted o (yielded ops a.tmps) = true then Oper.wp Tryd.prog o a w K Q else E := by
  obtain ⟨i0, hi, hz0, hz1, hz2⟩ := info_parts funcInfo
  refine step_append_lies (P := Tryd.prog) w hgd s x 33 ho lo 55 i0 _ 2 32 Tryd.underlying33 hi hz0 hz1 hz2 rfl (by decide) v rows.length _ hs hown.row ⟨B, 0, none⟩ 1 1 r.cells2 hx rfl (World.news_of_block hB) ?_ (by omega) ?_ ?_ hlo _ rfl ?_
  · intro u hu
    simp only [FuR.cells2, List.mem_cons, List.not_mem_nil, or_false] at hu
    rcases hu with rfl | rfl <;> rfl
  · unfold maxLen; omega
  · omega
  · intro g cap w2 h1 h2 h3 h4
    exact h _ w2 (OwnFus.push hown h1 h2 hr) h2
def SomeProg (d : PProg) (w : World) (e : Ending) (w' : World) : Prop := ∃ x : PrR, e = .returned x.val ∧ OwnPr w' w.heap.size x ∧ x.data = d ∧ Below w.heap.size w w'
set_option maxRecDepth 100000 in
set_option maxHeartbeats 3200000 in
theorem rtwin6_any {w : World} {p : PrR} (h : ProgIn w p) (hl : PrLim p) (htl : p.types.length ≤ 1000) :
    Calls Tryd.prog 16 #[p.val] w (SomeProg p.data w) := by
  have HP := Lib.hid h
  have HL := Lib.hid hl
  have hfm := hl.many
  have HTT := Lib.hid (fun W (hb : Below w.heap.size w W) => rtwin_any (h.on hb).types htl hl.parts)
  obtain ⟨ta, tc, types, fa, fc, funs⟩ := p
  unfold PrR.val at *
  dsimp only at *
  have HK1 := Lib.hid ((Blk.new w 35 #[.slice ta types.length tc, .slice fa funs.length fc]).alloc (.cells #[.slice none 0 0, .slice none 0 0] 35))
  have HR1 := Lib.hid (Blk.new2 w (.cells #[.slice ta types.length tc, .slice fa funs.length fc] 35) 35 #[.slice none 0 0, .slice none 0 0])
  have HB1 : Hid (Below w.heap.size w ((w.alloc (.cells #[.slice ta types.length tc, .slice fa funs.length fc] 35)).alloc (.cells #[.slice none 0 0, .slice none 0 0] 35))) := Lib.hid (((Below.refl _ _).alloc (Nat.le_refl _) _).alloc (by rw [World.size_alloc]; omega) _)
  clear h hl
  go_enter Tryd.func16, Tryd.ntmps16
  go_wp2_with fail
  refine (HTT.out _ HB1.out).mono ?_
  rintro e w2 ⟨vt, nt, rfl, hownt, htt, hb2⟩
  have HB2 := Lib.hid (HB1.out.trans (hb2.mono HB1.out.size))
  have HOT := Lib.hid hownt
  have HTT2 := Lib.hid htt
  obtain ⟨At, ct, rfl, _⟩ := hownt.form
  have HK2 := Lib.hid (HK1.out.beneath hb2)
  have HR2 := Lib.hid (HR1.out.beneath hb2)
  have HKO := Lib.hid (Blk.new w2 35 #[.slice At nt.length ct, .slice none 0 0])
  obtain ⟨g3, hg3⟩ : ∃ g, w2.heap.size = g := ⟨_, rfl⟩
  have HG3 := Lib.hid hg3
  clear hownt htt hb2 hg3
  go_wp2_with fail
  rw [HG3.out]
  go_loopw [4] (fun i wr => ∃ (k : Nat) (new : List FuR) (A : Option Addr) (c : Nat), k ≤ funs.length ∧ i = .int .i64 k ∧ Hid (new.length = k) ∧ Hid (OwnFus wr g3 (.slice A k c) new) ∧ Hid (new.map FuR.data = (funs.map FuR.data).take k) ∧ Hid (Blk wr g3 35 #[.slice At nt.length ct, .slice A k c]) ∧ Hid (Below g3 w2 wr)) (fun i _ => funs.length - (intOf i).toNat)
  case atStart => exact ⟨0, [], none, 0, Nat.zero_le _, rfl, Lib.hid rfl, Lib.hid (OwnFus.nil _ _), Lib.hid rfl, by rw [← HG3.out]; exact HKO, Lib.hid ((Below.refl _ _).alloc (by rw [HG3.out]; exact Nat.le_refl _) _)⟩
  case round =>
    obtain ⟨k, new, A, c, hk, rfl, HNL, HO, HT, HK, HB⟩ := hrel
    have HBW : Hid (Below w.heap.size w wr) := Lib.hid (HB2.out.trans (HB.out.mono (by rw [← HG3.out]; exact HB2.out.size)))
    have HBX : Hid (Below w2.heap.size w2 wr) := Lib.hid (HG3.out ▸ HB.out)
    have HKP := Lib.hid (HK2.out.beneath HBX.out)
    have p0 := HKP.out.cells 0
    have p1 := HKP.out.cells 1
    have o0 := HK.out.cells 0
    have o1 := HK.out.cells 1
    by_cases hlt : k < funs.length
    · obtain ⟨b, off, r, rfl, hb, ⟨c0', c1'⟩, hr0, HE⟩ := HP.out.funs.elem hlt
      have hr := hr0.on HBW.out
      have c0 := (HBW.out.cell (p := ⟨b, off + k * 2, none⟩) hb).trans c0'
      have c1 := (HBW.out.cell (p := ⟨b, off + k * 2 + 1, none⟩) hb).trans c1'
      have hbg : b < g3 := by have := HB2.out.size; rw [← HG3.out]; omega
      have hwg : w.heap.size < g3 := by have := HK2.out.lt; rw [← HG3.out]; omega
      have hbwr : b < wr.heap.size := Nat.lt_of_lt_of_le hb HBW.out.size
      clear c0' c1' hr0
      have hk0 : (0 : Int) ≤ (k : Int) := Int.natCast_nonneg _
      have hk1 : (k : Int) < (funs.length : Int) := by omega
      have hfr := HL.out.funs _ (mem_getD (d := default) hlt)
      rw [HE.out] at hfr
      have HFT := Lib.hid (fun W (hb : Below wr.heap.size wr W) => rtwinBlocks_any r (hr.on hb) hfr)
      have HDX : Hid ((funs.map FuR.data).getD k default = r.data) := Lib.hid (by rw [map_getD FuR.data funs hlt, HE.out])
      obtain ⟨sig, ba, bc, blocks⟩ := r
      dsimp only at *
      have HLT := Lib.hid hlt
      clear hr hfr hlt
      go_wp2_with fail
      have hgl : g3 ≤ wr.heap.size := Nat.le_trans (by rw [← HG3.out]; exact Nat.le_refl _) HBX.out.size
      have hbD : Below wr.heap.size wr wr.drew := (Below.refl _ _).drew
      have HBD := Lib.hid hbD
      clear hbD
      have n1 : b ≠ g3 := by omega
      have n2 : w.heap.size ≠ g3 := by omega
      refine wp_region_T (fun w' => w'.cell? ⟨g3, 1, none⟩ = some (.slice A k c) ∧ w'.cell? ⟨w.heap.size, 1, none⟩ = some (.slice (some ⟨b, off, none⟩) funs.length fc) ∧ w'.cell? ⟨b, off + k * 2, none⟩ = some (.int .i64 sig) ∧ w'.cell? ⟨b, off + k * 2 + 1, none⟩ = some (.slice ba blocks.length bc)) 19 (by kernel_rfl) ⟨o1, p1, c0, c1⟩ (fun hHeld => ?_)
      refine wpAnyT_take (i := 0) (by kernel_rfl) (by decide) rfl (by kernel_rfl) (by kernel_rfl) (by kernel_rfl) (fun _ _ _ h => h) (Or.inl ⟨by rfl, by (intro w hSw; (try dsimp only at hSw); go_simp; (try with_reducible rfl))⟩) (by assumption) ?_; (try simp only [Act.put, List.setIfInBounds_toArray, List.set_cons_zero, List.set_cons_succ])
      refine wpAnyT_take (i := 1) (by kernel_rfl) (by decide) rfl (by kernel_rfl) (by kernel_rfl) (by kernel_rfl) (fun _ _ _ h => h) (Or.inl ⟨by rfl, by (intro w hSw; (try dsimp only at hSw); go_simp; (try with_reducible rfl))⟩) (by assumption) ?_; (try simp only [Act.put, List.setIfInBounds_toArray, List.set_cons_zero, List.set_cons_succ])
      refine wpAnyT_take (i := 2) (by kernel_rfl) (by decide) rfl (by kernel_rfl) (by kernel_rfl) (by kernel_rfl) (fun _ _ _ h => h) (Or.inl ⟨by rfl, by (intro w hSw; (try dsimp only at hSw); go_simp; (try with_reducible rfl))⟩) (by assumption) ?_; (try simp only [Act.put, List.setIfInBounds_toArray, List.set_cons_zero, List.set_cons_succ])
      refine wpAnyT_take (i := 3) (by kernel_rfl) (by decide) rfl (by kernel_rfl) (by kernel_rfl) (by kernel_rfl) (fun _ _ _ h => h) (Or.inl ⟨by rfl, by (intro w hSw; (try dsimp only at hSw); go_simp; (try with_reducible rfl))⟩) (by assumption) ?_; (try simp only [Act.put, List.setIfInBounds_toArray, List.set_cons_zero, List.set_cons_succ])
      refine wpAnyT_take (i := 4) (by kernel_rfl) (by decide) rfl (by kernel_rfl) (by kernel_rfl) (by kernel_rfl) (fun _ _ _ h => h) (Or.inl ⟨by rfl, by (intro w hSw; (try dsimp only at hSw); go_simp; (try with_reducible rfl))⟩) (by assumption) ?_; (try simp only [Act.put, List.setIfInBounds_toArray, List.set_cons_zero, List.set_cons_succ])
      refine wpAnyT_take (i := 5) (by kernel_rfl) (by decide) rfl (by kernel_rfl) (by kernel_rfl) (by kernel_rfl) (fun _ _ _ h => h) (Or.inl ⟨by rfl, by (intro w hSw; (try dsimp only at hSw); go_simp; (try with_reducible rfl))⟩) (by assumption) ?_; (try simp only [Act.put, List.setIfInBounds_toArray, List.set_cons_zero, List.set_cons_succ])
      refine wpAnyT_take (i := 6) (by kernel_rfl) (by decide) rfl (by kernel_rfl) (by kernel_rfl) (by kernel_rfl) (fun _ _ _ h => h) (Or.inl ⟨by rfl, by (intro w hSw; (try dsimp only at hSw); go_simp; (try with_reducible rfl))⟩) (by assumption) ?_; (try simp only [Act.put, List.setIfInBounds_toArray, List.set_cons_zero, List.set_cons_succ])
      refine wpAnyT_take (i := 7) (by kernel_rfl) (by decide) rfl (by kernel_rfl) (by kernel_rfl) (by kernel_rfl) (fun _ _ _ h => h) (Or.inl ⟨by rfl, by (intro w hSw; (try dsimp only at hSw); go_simp; (try with_reducible rfl))⟩) (by assumption) ?_; (try simp only [Act.put, List.setIfInBounds_toArray, List.set_cons_zero, List.set_cons_succ])
      refine wpAnyT_take (i := 8) (by kernel_rfl) (by decide) rfl (by kernel_rfl) (by kernel_rfl) (by kernel_rfl) (fun _ _ _ h => h) (Or.inl ⟨by rfl, by (intro w hSw; (try dsimp only at hSw); go_simp; (try with_reducible rfl))⟩) (by assumption) ?_; (try simp only [Act.put, List.setIfInBounds_toArray, List.set_cons_zero, List.set_cons_succ])
      refine wpAnyT_take (i := 9) (by kernel_rfl) (by decide) rfl (by kernel_rfl) (by kernel_rfl) (by kernel_rfl) (fun _ _ _ h => h) (Or.inl ⟨by rfl, by (intro w hSw; (try dsimp only at hSw); go_simp; (try with_reducible rfl))⟩) (by assumption) ?_; (try simp only [Act.put, List.setIfInBounds_toArray, List.set_cons_zero, List.set_cons_succ])
      refine wpAnyT_take (i := 10) (by kernel_rfl) (by decide) rfl (by kernel_rfl) (by kernel_rfl) (by kernel_rfl) (fun _ _ _ h => h) (Or.inl ⟨by rfl, by (intro w hSw; (try dsimp only at hSw); go_simp; (try with_reducible rfl))⟩) (by assumption) ?_; (try simp only [Act.put, List.setIfInBounds_toArray, List.set_cons_zero, List.set_cons_succ])
      refine wpAnyT_take (i := 11) (by kernel_rfl) (by decide) rfl (by kernel_rfl) (by kernel_rfl) (by kernel_rfl) (fun _ _ _ h => h) (Or.inl ⟨by rfl, by (intro w hSw; (try dsimp only at hSw); go_simp; (try with_reducible rfl))⟩) (by assumption) ?_; (try simp only [Act.put, List.setIfInBounds_toArray, List.set_cons_zero, List.set_cons_succ])
      refine wpAnyT_take (i := 12) (by kernel_rfl) (by decide) rfl (by kernel_rfl) (by kernel_rfl) (by kernel_rfl) (fun _ _ _ h => h) (Or.inl ⟨by rfl, by (intro w hSw; (try dsimp only at hSw); go_simp; (try with_reducible rfl))⟩) (by assumption) ?_; (try simp only [Act.put, List.setIfInBounds_toArray, List.set_cons_zero, List.set_cons_succ])
      refine wpAnyT_take (i := 13) (by kernel_rfl) (by decide) rfl (by kernel_rfl) (by kernel_rfl) (by kernel_rfl) (fun _ _ _ h => h) (Or.inl ⟨by rfl, by (intro w hSw; (try dsimp only at hSw); go_simp; (try with_reducible rfl))⟩) (by assumption) ?_; (try simp only [Act.put, List.setIfInBounds_toArray, List.set_cons_zero, List.set_cons_succ])
      refine wpAnyT_one (i := 14) (by kernel_rfl) rfl (fun K hK => ?_)
      go_simp
      go_at_call 38
      refine (HFT.out _ HBD.out).mono ?_
      rintro e w3 ⟨vb, nb, rfl, hownb, hdb, hb3⟩
      have hb4 := HBD.out.trans (hb3.mono HBD.out.size)
      have HB4 := Lib.hid hb4
      have HK3 := Lib.hid (HK.out.beneath hb4)
      have HO3 := Lib.hid (HO.out.keep hb4)
      have o1' : w3.cell? ⟨g3, 1, none⟩ = some (.slice A k c) := HK3.out.cells 1
      have p1' : w3.cell? ⟨w.heap.size, 1, none⟩ = some (.slice (some ⟨b, off, none⟩) funs.length fc) := (HKP.out.beneath hb4).cells 1
      have c0' : w3.cell? ⟨b, off + k * 2, none⟩ = some (.int .i64 sig) := (hb4.cell (p := ⟨b, off + k * 2, none⟩) hbwr).trans c0
      have c1' : w3.cell? ⟨b, off + k * 2 + 1, none⟩ = some (.slice ba blocks.length bc) := (hb4.cell (p := ⟨b, off + k * 2 + 1, none⟩) hbwr).trans c1
      obtain ⟨Ab, cb, rfl, _⟩ := hownb.form
      have HOB := Lib.hid (hownb.more hgl)
      have HDB := Lib.hid hdb
      clear hownb hdb hb3 hb4
      refine hK.out _ _ (fun _ => ⟨o1', p1', c0', c1'⟩) (fun hH => ?_)
      clear hHeld hK K
      have hHeld := hH (by decide)
      clear hH
      refine wpAnyT_take (i := 15) (by kernel_rfl) (by decide) rfl (by kernel_rfl) (by kernel_rfl) (by kernel_rfl) (fun _ _ _ h => h) (Or.inl ⟨by rfl, by (intro w hSw; (try dsimp only at hSw); go_simp; (try with_reducible rfl))⟩) (by assumption) ?_; (try simp only [Act.put, List.setIfInBounds_toArray, List.set_cons_zero, List.set_cons_succ])
      refine wpAnyT_one (i := 16) (by kernel_rfl) rfl (fun K hK => ?_)
      go_simp
      have HB5 : Hid (Below wr.heap.size wr (w3.alloc (.cells #[.int .i64 sig, .slice Ab nb.length cb] 55))) := Lib.hid (HB4.out.alloc HB4.out.size _)
      have hk5 := HK3.out.alloc (.cells #[.int .i64 sig, .slice Ab nb.length cb] 55)
      have o5 : (w3.alloc (.cells #[.int .i64 sig, .slice Ab nb.length cb] 55)).cell? ⟨g3, 1, none⟩ = some (.slice A k c) := hk5.cells 1
      have p5 : (w3.alloc (.cells #[.int .i64 sig, .slice Ab nb.length cb] 55)).cell? ⟨w.heap.size, 1, none⟩ = some (.slice (some ⟨b, off, none⟩) funs.length fc) := (HKP.out.beneath HB5.out).cells 1
      have d5 : (w3.alloc (.cells #[.int .i64 sig, .slice Ab nb.length cb] 55)).cell? ⟨b, off + k * 2, none⟩ = some (.int .i64 sig) := (HB5.out.cell (p := ⟨b, off + k * 2, none⟩) hbwr).trans c0
      have e5 : (w3.alloc (.cells #[.int .i64 sig, .slice Ab nb.length cb] 55)).cell? ⟨b, off + k * 2 + 1, none⟩ = some (.slice ba blocks.length bc) := (HB5.out.cell (p := ⟨b, off + k * 2 + 1, none⟩) hbwr).trans c1
      refine hK.out _ _ (fun _ => ⟨o5, p5, d5, e5⟩) (fun hH => ?_)
      clear hHeld hK K
      have hHeld := hH (by decide)
      clear hH
      refine wpAnyT_one (i := 17) (by kernel_rfl) rfl (fun K hK => ?_)
      refine step_appF rfl (.tmp 17) (.tmp 32) rfl g3 (.slice A k c) new ⟨sig, Ab, cb, nb⟩ (by rfl) (HO3.out.keep ((Below.refl _ _).alloc (Nat.le_refl _) _)) w3.heap.size (by rfl) (Blk.new _ _ _) (OwnBls.keep HOB.out ((Below.refl _ _).alloc (Nat.le_refl _) _)) (by rw [World.size_alloc]; exact Nat.le_succ_of_le (Nat.le_trans hgl HB4.out.size)) (by have := HNL.out; omega) ?_
      intro v4 w4 hown4 hg4
      have hk6 := hk5.grown hg4 (own_ne HO3.out.row HK3.out (by decide))
      have hb6 : Below g3 w2 w4 := Below.grown ((HB.out.trans (HB4.out.mono hgl)).alloc (Nat.le_trans hgl HB4.out.size) _) hg4 (by rw [World.size_alloc]; exact Nat.le_succ_of_le (Nat.le_trans hgl HB4.out.size)) (fun k hk => (HO3.out.row.lt k hk).1)
      obtain ⟨A4, c4, rfl, _⟩ := hown4.form
      have hlen4 : (new ++ [(⟨sig, Ab, cb, nb⟩ : FuR)]).length = k + 1 := by rw [List.length_append, HNL.out]; rfl
      rw [hlen4] at hown4
      rw [hlen4]
      clear hlen4
      have HO4 := Lib.hid hown4
      have HK6 := Lib.hid hk6
      have HB6 := Lib.hid hb6
      have hb7 : Below w2.heap.size w2 w4 := HG3.out ▸ hb6
      have r0 : w4.cell? ⟨g3, 1, none⟩ = some (.slice A k c) := hk6.cells 1
      have r1 : w4.frozen? ⟨g3, 1, none⟩ = false := hk6.free 1
      have p6 : w4.cell? ⟨w.heap.size, 1, none⟩ = some (.slice (some ⟨b, off, none⟩) funs.length fc) := (HK2.out.beneath hb7).cells 1
      have d6 : w4.cell? ⟨b, off + k * 2, none⟩ = some (.int .i64 sig) := (hb6.cell (p := ⟨b, off + k * 2, none⟩) hbg).trans ((HB.out.cell (p := ⟨b, off + k * 2, none⟩) hbg).symm.trans c0)
      have e6 : w4.cell? ⟨b, off + k * 2 + 1, none⟩ = some (.slice ba blocks.length bc) := (hb6.cell (p := ⟨b, off + k * 2 + 1, none⟩) hbg).trans ((HB.out.cell (p := ⟨b, off + k * 2 + 1, none⟩) hbg).symm.trans c1)
      clear hk5 hk6 hb6 hb7 hown4 hg4
      refine hK.out _ _ (fun _ => ⟨r0, p6, d6, e6⟩) (fun hH => ?_)
      clear hHeld hK K
      have hHeld := hH (by decide)
      clear hH
      refine wpAnyT_take (i := 18) (by kernel_rfl) (by decide) rfl (by kernel_rfl) (by kernel_rfl) (by kernel_rfl) (fun _ _ _ h => h) (Or.inl ⟨by rfl, by (intro w hSw; (try dsimp only at hSw); go_simp; (try with_reducible rfl))⟩) (by assumption) ?_; (try simp only [Act.put, List.setIfInBounds_toArray, List.set_cons_zero, List.set_cons_succ])
      refine wpAnyT_one (i := 19) (by kernel_rfl) rfl (fun K hK => ?_)
      go_simp
      refine hK.out _ _ (fun e => absurd rfl e) (fun hH => ?_)
      refine wpAnyT_done (by kernel_rfl) ?_ _
      clear hHeld hK K hH
      have HO7 : Hid (OwnFus (w4.setCell ⟨g3, 1, none⟩ (.slice A4 (k + 1 : Nat) c4)) g3 (.slice A4 (k + 1 : Nat) c4) (new ++ [(⟨sig, Ab, cb, nb⟩ : FuR)])) := Lib.hid (HO4.out.spare (Spare.set HK6.out _) (by decide) (by decide) (by decide) (by decide))
      have HK7 : Hid (Blk (w4.setCell ⟨g3, 1, none⟩ (.slice A4 (k + 1 : Nat) c4)) g3 35 #[.slice At nt.length ct, .slice A4 (k + 1 : Nat) c4]) := Lib.hid (HK6.out.put 1 _)
      have HB7 : Hid (Below g3 w2 (w4.setCell ⟨g3, 1, none⟩ (.slice A4 (k + 1 : Nat) c4))) := Lib.hid (HB6.out.setCell (Nat.le_refl _) _)
      clear r0 r1 p6 d6 e6 o5 p5 d5 e5 o1' p1' c0' c1' HK6 HO4 HB6
      go_wp2_with fail
      go_roundw
      case rel => exact ⟨k + 1, _, A4, c4, by have := HLT.out; omega, by go_num, Lib.hid (by rw [List.length_append, HNL.out]; rfl), HO7, Lib.hid (by rw [List.map_append, HT.out, take_succ_getD (d := default) (by rw [List.length_map]; exact HLT.out), HDX.out]; show _ ++ [FuR.data ⟨sig, Ab, cb, nb⟩] = _ ++ [FuR.data ⟨sig, ba, bc, blocks⟩]; rw [show FuR.data ⟨sig, Ab, cb, nb⟩ = FuR.data ⟨sig, ba, bc, blocks⟩ by unfold FuR.data; rw [HDB.out]]), HK7, HB7⟩
      case measure => simp [intOf]; have := HLT.out; omega
    · obtain rfl : k = funs.length := by omega
      have HRR := Lib.hid (HR2.out.beneath HBX.out)
      have r0 := HRR.out.cells 0
      have r1 := HRR.out.cells 1
      have r2 := HRR.out.free 0
      have r3 := HRR.out.free 1
      go_wp2_with fail
      have hk8 := (HRR.out.put 0 (.slice At nt.length ct)).put 1 (.slice A funs.length c)
      have q0 := hk8.cells 0
      have q1 := hk8.cells 1
      have hln := HNL.out
      have hs1 : Spare 35 wr ((wr.setCell ⟨w.heap.size + 1, 0, none⟩ (.slice At nt.length ct)).setCell ⟨w.heap.size + 1, 1, none⟩ (.slice A funs.length c)) := (Spare.set HRR.out _).trans (Spare.set (HRR.out.put 0 _) _)
      have hbe : Below w.heap.size w ((wr.setCell ⟨w.heap.size + 1, 0, none⟩ (.slice At nt.length ct)).setCell ⟨w.heap.size + 1, 1, none⟩ (.slice A funs.length c)) := (HBW.out.setCell (by show w.heap.size ≤ w.heap.size + 1; omega) _).setCell (by show w.heap.size ≤ w.heap.size + 1; omega) _
      refine bodyPost_ret (v := .agg #[.slice At nt.length ct, .slice A funs.length c]) (by simp [results, Tryd.results16, go_sem, q0, q1]) rfl ?_
      refine ⟨⟨At, ct, nt, A, c, new⟩, by rw [← hln]; rfl, ⟨?_, ?_⟩, ?_, hbe⟩
      · exact ((HOT.out.keep HBX.out).spare hs1 (by decide) (by decide)).more HB1.out.size
      · show OwnFus _ _ (.slice A new.length c) new
        rw [hln]
        exact (HO.out.spare hs1 (by decide) (by decide) (by decide) (by decide)).more (by rw [← HG3.out]; exact HB2.out.size)
      · have h1 := HT.out
        rw [List.take_of_length_le (by rw [List.length_map]; exact Nat.le_refl _)] at h1
        show (⟨tbl nt, new.map FuR.data⟩ : PProg) = ⟨tbl types, funs.map FuR.data⟩
        rw [h1, HTT2.out]
end Go.Proofs.YtcbhmpkginebaaaDoor
