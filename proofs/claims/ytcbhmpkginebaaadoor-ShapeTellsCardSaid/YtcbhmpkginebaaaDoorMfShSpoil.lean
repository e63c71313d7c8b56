/-
  A program of the call's own that is written over: nothing older turns.
-/
import Derived.Test.YtcbhmpkginebaaaDoorMg14
import Derived.Test.YtcbhmpkginebaaaDoorMfShOwn
import Derived.Outline
namespace Go.Proofs.YtcbhmpkginebaaaDoor
set_option linter.unusedVariables false
set_option linter.unusedSimpArgs false
open Go.ChangeShapes Go.WideShapes Go.ChangeAt Go.RowKit

/-- A slice's memory, if it has any, is from a block on, and may be written. -/
def Mine (w : World) (lo : Nat) (A : Option Addr) (n : Nat) : Prop := 0 < n → ∃ b off, A = some ⟨b, off, none⟩ ∧ lo ≤ b ∧ ∃ cs t, w.heap[b]? = some (.cells cs t (0, 0))
structure InR.Mine (w : World) (lo : Nat) (r : InR) : Prop where
  args : Go.Proofs.YtcbhmpkginebaaaDoor.Mine w lo r.aa r.args.length
  from_ : Go.Proofs.YtcbhmpkginebaaaDoor.Mine w lo r.fa r.from_.length
structure BlR.Mine (w : World) (lo : Nat) (r : BlR) : Prop where
  head : Go.Proofs.YtcbhmpkginebaaaDoor.Mine w lo r.ia r.ins.length
  ins : ∀ x ∈ r.ins, x.Mine w lo
structure FuR.Mine (w : World) (lo : Nat) (r : FuR) : Prop where
  head : Go.Proofs.YtcbhmpkginebaaaDoor.Mine w lo r.ba r.blocks.length
  blocks : ∀ b ∈ r.blocks, b.Mine w lo
structure PrR.Mine (w : World) (lo : Nat) (r : PrR) : Prop where
  types : Go.Proofs.YtcbhmpkginebaaaDoor.Mine w lo r.ta r.types.length
  funs : Go.Proofs.YtcbhmpkginebaaaDoor.Mine w lo r.fa r.funs.length
  inner : ∀ f ∈ r.funs, f.Mine w lo
theorem Mine.free {w : World} {lo b off n : Nat} (h : Mine w lo (some ⟨b, off, none⟩) n) (hn : 0 < n) : lo ≤ b ∧ ∀ i, w.frozen? ⟨b, i, none⟩ = false := by
  obtain ⟨b', off', e, h1, cs, t, h2⟩ := h hn
  injection e with e
  injection e with e1 e2 _
  subst e1
  exact ⟨h1, fun i => by simp [World.frozen?, h2]⟩
theorem ownsRow_mine {w : World} {lo n size c : Nat} {e : TypeId} {A : Option Addr} {xs : List Value} (h : w.ownsRow lo e size (.slice A n c) n xs) : Mine w lo A n := fun hn => by
  rcases h.2 with ⟨h1, h2⟩ | ⟨g, cap, cur, h1, h2, h3, _⟩
  · injection h1 with e1 e2 e3; omega
  · injection h1 with e1 e2 e3
    exact ⟨g, 0, e1, h2, cur, e, h3⟩
section
variable {w : World} {lo : Nat}
theorem InR.Own.mine {r : InR} (h : r.Own w lo) : r.Mine w lo := ⟨ownsRow_mine h.args, ownsRow_mine h.from_⟩
theorem OwnIns.mine {A : Option Addr} {c : Nat} {rows : List InR} (h : OwnIns w lo (.slice A rows.length c) rows) : Mine w lo A rows.length ∧ ∀ x ∈ rows, x.Mine w lo := ⟨ownsRow_mine h.row, fun x hx => (h.inner x hx).mine⟩
theorem BlR.Own.mine {r : BlR} (h : r.Own w lo) : r.Mine w lo := ⟨h.ins.mine.1, h.ins.mine.2⟩
theorem OwnBls.mine {A : Option Addr} {c : Nat} {rows : List BlR} (h : OwnBls w lo (.slice A rows.length c) rows) : Mine w lo A rows.length ∧ ∀ x ∈ rows, x.Mine w lo := ⟨ownsRow_mine h.row, fun x hx => (h.inner x hx).mine⟩
theorem OwnFus.mine {A : Option Addr} {c : Nat} {rows : List FuR} (h : OwnFus w lo (.slice A rows.length c) rows) : Mine w lo A rows.length ∧ ∀ x ∈ rows, x.Mine w lo := ⟨ownsRow_mine h.row, fun x hx => ⟨(OwnBls.mine (h.inner x hx)).1, (OwnBls.mine (h.inner x hx)).2⟩⟩
theorem OwnPr.mine {p : PrR} (h : OwnPr w lo p) : p.Mine w lo := ⟨ownsRow_mine h.types.row, h.funs.mine.1, h.funs.mine.2⟩
end
theorem Mine.keep {w w' : World} {lo n : Nat} {A : Option Addr} (h : Mine w lo A n) (hb : Below w.heap.size w w') : Mine w' lo A n := fun hn => by
  obtain ⟨b, off, e, h1, cs, t, h2⟩ := h hn
  exact ⟨b, off, e, h1, cs, t, (hb.block b (Array.getElem?_eq_some_iff.1 h2).1).trans h2⟩
theorem InR.Mine.keep {w w' : World} {lo : Nat} {r : InR} (h : r.Mine w lo) (hb : Below w.heap.size w w') : r.Mine w' lo := ⟨Go.Proofs.YtcbhmpkginebaaaDoor.Mine.keep h.args hb, Go.Proofs.YtcbhmpkginebaaaDoor.Mine.keep h.from_ hb⟩
theorem BlR.Mine.keep {w w' : World} {lo : Nat} {r : BlR} (h : r.Mine w lo) (hb : Below w.heap.size w w') : r.Mine w' lo := ⟨Go.Proofs.YtcbhmpkginebaaaDoor.Mine.keep h.head hb, fun x hx => (h.ins x hx).keep hb⟩
theorem FuR.Mine.keep {w w' : World} {lo : Nat} {r : FuR} (h : r.Mine w lo) (hb : Below w.heap.size w w') : r.Mine w' lo := ⟨Go.Proofs.YtcbhmpkginebaaaDoor.Mine.keep h.head hb, fun x hx => (h.blocks x hx).keep hb⟩
theorem PrR.Mine.keep {w w' : World} {lo : Nat} {r : PrR} (h : r.Mine w lo) (hb : Below w.heap.size w w') : r.Mine w' lo := ⟨Go.Proofs.YtcbhmpkginebaaaDoor.Mine.keep h.types hb, Go.Proofs.YtcbhmpkginebaaaDoor.Mine.keep h.funs hb, fun x hx => (h.inner x hx).keep hb⟩
/-- From a block on some numbers are others. -/
structure Turned (lo : Nat) (w w' : World) : Prop where
  below : Below lo w w'
  slice : ∀ b i A n c, w.cell? ⟨b, i, none⟩ = some (.slice A n c) → w'.cell? ⟨b, i, none⟩ = some (.slice A n c)
  int : ∀ b i k n, w.cell? ⟨b, i, none⟩ = some (.int k n) → ∃ m, w'.cell? ⟨b, i, none⟩ = some (.int k m)
  free : ∀ b i, w.frozen? ⟨b, i, none⟩ = false → w'.frozen? ⟨b, i, none⟩ = false
theorem Turned.refl (lo : Nat) (w : World) : Turned lo w w := ⟨Below.refl _ _, fun _ _ _ _ _ h => h, fun _ _ _ n h => ⟨n, h⟩, fun _ _ h => h⟩
theorem Turned.set {lo : Nat} {w w' : World} (h : Turned lo w w') {b i : Nat} {k : IntKind} {n : Int} (hb : lo ≤ b) (hc : w'.cell? ⟨b, i, none⟩ = some (.int k n)) (m : Int) : Turned lo w (w'.setCell ⟨b, i, none⟩ (.int k m)) := by
  refine ⟨h.below.setCell hb _, fun b' i' A n' c hs => ?_, fun b' i' k' n' hs => ?_, fun b' i' hs => (World.frozen?_setCell _ _ _ _).trans (h.free b' i' hs)⟩
  · have h1 := h.slice b' i' A n' c hs
    rw [World.cell?_setCell_other]
    · exact h1
    · intro e
      rw [← e, hc] at h1
      cases h1
  · obtain ⟨m', h1⟩ := h.int b' i' k' n' hs
    by_cases e : (⟨b, i, none⟩ : Addr) = ⟨b', i', none⟩
    · rw [← e, hc] at h1
      injection h1 with h1
      injection h1 with h1 _
      subst h1
      rw [← e]
      exact ⟨m, World.cell?_setCell_same _ _ _ hc⟩
    · rw [World.cell?_setCell_other _ _ _ _ e]
      exact ⟨m', h1⟩
set_option maxRecDepth 100000 in
set_option maxHeartbeats 6400000 in
theorem spoil_any {w : World} {lo : Nat} {p : PrR} (h : ProgIn w p) (hm : p.Mine w lo) (hlo : lo ≤ w.heap.size) :
    Calls Tryd.prog 31 #[p.val] w fun e w' => (∃ v, e = .returned v) ∧ Below lo w w' := by
  have hfl := h.funs.hdr.cle
  have htl := h.types.len
  have hb0 : Below w.heap.size w (w.alloc (.cells #[.slice p.ta p.types.length p.tc, .slice p.fa p.funs.length p.fc] 35)) := (Below.refl _ _).alloc (Nat.le_refl _) _
  have HP := Lib.hid (h.on hb0)
  have HM := Lib.hid (hm.keep hb0)
  have HBX := Lib.hid (Blk.new w 35 #[.slice p.ta p.types.length p.tc, .slice p.fa p.funs.length p.fc])
  obtain ⟨w1, hw1⟩ : ∃ w1, w.alloc (.cells #[.slice p.ta p.types.length p.tc, .slice p.fa p.funs.length p.fc] 35) = w1 := ⟨_, rfl⟩
  rw [hw1] at HP HM HBX
  have HB1 : Hid (Below lo w w1) := Lib.hid (hw1 ▸ hb0.mono hlo)
  have HW1 := Lib.hid hw1
  obtain ⟨ta, tc, types, fa, fc, funs⟩ := p
  unfold PrR.val
  dsimp only at *
  clear h hm hb0 hw1
  have HP0 : Hid (w1.cell? ⟨w.heap.size, 0, none⟩ = some (.slice ta types.length tc)) := Lib.hid (HBX.out.cells 0)
  have HP1 : Hid (w1.cell? ⟨w.heap.size, 1, none⟩ = some (.slice fa funs.length fc)) := Lib.hid (HBX.out.cells 1)
  go_enter Tryd.func31, Tryd.ntmps31
  go_wp2_with fail
  rw [HW1.out]
  go_loopw [2] (fun i wr => ∃ k : Nat, k ≤ funs.length ∧ i = .int .i64 k ∧ Hid (Turned lo w1 wr)) (fun i _ => funs.length - (intOf i).toNat)
  case atStart => exact ⟨0, Nat.zero_le _, rfl, Lib.hid (Turned.refl _ _)⟩
  case round =>
    obtain ⟨k, hk, rfl, HT⟩ := hrel
    have p1 := HT.out.slice _ _ _ _ _ HP1.out
    by_cases hlt : k < funs.length
    · obtain ⟨b, off, r, rfl, hb, ⟨c0, c1⟩, hr, HE⟩ := HP.out.funs.elem hlt
      have hmf := (HM.out.inner _ (mem_getD (d := default) hlt))
      rw [HE.out] at hmf
      obtain ⟨hlb, hfz⟩ := HM.out.funs.free (by show 0 < funs.length; omega)
      have hbl := hr.blocks.hdr.cle
      obtain ⟨sig, ba, bc, bls⟩ := r
      dsimp only at *
      have hk0 : (0 : Int) ≤ (k : Int) := Int.natCast_nonneg _
      have hk1 : (k : Int) < (funs.length : Int) := by omega
      have HC0 := Lib.hid c0
      have HC1 := Lib.hid c1
      have HR := Lib.hid hr
      have HMF := Lib.hid hmf
      have HFZ := Lib.hid (And.intro hlb hfz)
      have HLT := Lib.hid hlt
      have hc1 := HT.out.slice _ _ _ _ _ c1
      clear c0 c1 hr hmf hlb hfz hlt hb
      go_wp2_with fail
      go_loopw [3] (fun i wr => ∃ j : Nat, j ≤ bls.length ∧ i = .int .i64 j ∧ Hid (Turned lo w1 wr)) (fun i _ => bls.length - (intOf i).toNat)
      case atStart => exact ⟨0, Nat.zero_le _, rfl, HT⟩
      case round =>
        clear p1 hc1 HT
        obtain ⟨j, hj, rfl, HT⟩ := hrel
        have p1 := HT.out.slice _ _ _ _ _ HP1.out
        have hc1 := HT.out.slice _ _ _ _ _ HC1.out
        by_cases hlt : j < bls.length
        · obtain ⟨b2, off2, r2, rfl, hb2, ⟨e0, e1, _, _, _⟩, hr2, HE2⟩ := HR.out.blocks.elem hlt
          have hmb := (HMF.out.blocks _ (mem_getD (d := default) hlt))
          rw [HE2.out] at hmb
          obtain ⟨hlb, hfz⟩ := HMF.out.head.free (by show 0 < bls.length; omega)
          have hil := hr2.ins.hdr.cle
          obtain ⟨ia, ic, ins, kd, ea, et, el⟩ := r2
          dsimp only at *
          have hj0 : (0 : Int) ≤ (j : Int) := Int.natCast_nonneg _
          have hj1 : (j : Int) < (bls.length : Int) := by omega
          have HE0 := Lib.hid e0
          have HE1 := Lib.hid e1
          have HR2 := Lib.hid hr2
          have HMB := Lib.hid hmb
          have HFZ2 := Lib.hid (And.intro hlb hfz)
          have HLT2 := Lib.hid hlt
          have he0 := HT.out.slice _ _ _ _ _ e0
          clear e0 e1 hr2 hmb hlb hfz hlt hb2
          go_wp2_with fail
          go_loopw [5] (fun i wr => ∃ n : Nat, n ≤ ins.length ∧ i = .int .i64 n ∧ Hid (Turned lo w1 wr)) (fun i _ => ins.length - (intOf i).toNat)
          case atStart => exact ⟨0, Nat.zero_le _, rfl, HT⟩
          case round =>
            clear p1 hc1 he0 HT
            obtain ⟨n, hn, rfl, HT⟩ := hrel
            by_cases hlt : n < ins.length
            · obtain ⟨b3, off3, x, rfl, hb3, ⟨d0, _, _, _, _, d5, d6⟩, hx, HE3⟩ := HR2.out.ins.elem hlt
              have hmi := (HMB.out.ins _ (mem_getD (d := default) hlt))
              rw [HE3.out] at hmi
              obtain ⟨hlb, hfz⟩ := HMB.out.head.free (by show 0 < ins.length; omega)
              have hal := hx.ahdr.cle
              have hfrl := hx.fhdr.cle
              obtain ⟨op, ty, xa, xb, xn, aa, ac, args, xf, xfc, from_⟩ := x
              dsimp only at *
              have hn0 : (0 : Int) ≤ (n : Int) := Int.natCast_nonneg _
              have hn1 : (n : Int) < (ins.length : Int) := by omega
              have HD0 := Lib.hid d0
              have HD5 := Lib.hid d5
              have HD6 := Lib.hid d6
              have HX := Lib.hid hx
              have HMI := Lib.hid hmi
              have HFZ3 := Lib.hid (And.intro hlb hfz)
              have HLT3 := Lib.hid hlt
              clear d0 d5 d6 hx hmi hlb hfz hlt hb3
              go_wp2_with fail
              have hd5 := HT.out.slice _ _ _ _ _ HD5.out
              go_loopw [6] (fun i wr => ∃ m : Nat, m ≤ args.length ∧ i = .int .i64 m ∧ Hid (Turned lo w1 wr)) (fun i _ => args.length - (intOf i).toNat)
              case atStart => exact ⟨0, Nat.zero_le _, rfl, HT⟩
              case round =>
                clear hd5 HT
                obtain ⟨m, hm, rfl, HT⟩ := hrel
                have hd5 := HT.out.slice _ _ _ _ _ HD5.out
                by_cases hlt : m < args.length
                · obtain ⟨b4, off4, y, hA, hcell, _⟩ := HX.out.args.cell hlt
                  dsimp only at hA
                  subst hA
                  obtain ⟨hlb, hfz⟩ := HMI.out.args.free (by show 0 < args.length; omega)
                  obtain ⟨m2, hy⟩ := HT.out.int _ _ _ _ hcell
                  have hz := HT.out.free _ _ (hfz (off4 + m))
                  have HT2 := Lib.hid (HT.out.set hlb hy (-7))
                  have HLT4 := Lib.hid hlt
                  have hm0 : (0 : Int) ≤ (m : Int) := Int.natCast_nonneg _
                  have hm1 : (m : Int) < (args.length : Int) := by omega
                  clear hcell hfz hlt
                  go_wp2_with fail
                  go_roundw
                  case rel => exact ⟨m + 1, by have := HLT4.out; omega, by go_num, HT2⟩
                  case measure => simp [intOf]; have := HLT4.out; omega
                · go_wp2_with fail
                  clear hd5
                  have hd6 := HT.out.slice _ _ _ _ _ HD6.out
                  go_loopw [7] (fun i wr => ∃ m : Nat, m ≤ from_.length ∧ i = .int .i64 m ∧ Hid (Turned lo w1 wr)) (fun i _ => from_.length - (intOf i).toNat)
                  case atStart => exact ⟨0, Nat.zero_le _, rfl, HT⟩
                  case round =>
                    clear hd6 HT
                    obtain ⟨m, hm, rfl, HT⟩ := hrel
                    have hd6 := HT.out.slice _ _ _ _ _ HD6.out
                    by_cases hlt : m < from_.length
                    · obtain ⟨b4, off4, y, hA, hcell, _⟩ := HX.out.from_.cell hlt
                      dsimp only at hA
                      subst hA
                      obtain ⟨hlb, hfz⟩ := HMI.out.from_.free (by show 0 < from_.length; omega)
                      obtain ⟨m2, hy⟩ := HT.out.int _ _ _ _ hcell
                      have hz := HT.out.free _ _ (hfz (off4 + m))
                      have HT2 := Lib.hid (HT.out.set hlb hy (-7))
                      have HLT4 := Lib.hid hlt
                      have hm0 : (0 : Int) ≤ (m : Int) := Int.natCast_nonneg _
                      have hm1 : (m : Int) < (from_.length : Int) := by omega
                      clear hcell hfz hlt
                      go_wp2_with fail
                      go_roundw
                      case rel => exact ⟨m + 1, by have := HLT4.out; omega, by go_num, HT2⟩
                      case measure => simp [intOf]; have := HLT4.out; omega
                    · skip
                      obtain ⟨m0, hd0⟩ := HT.out.int _ _ _ _ HD0.out
                      have hz0 := HT.out.free _ _ (HFZ3.out.2 (off3 + n * 7))
                      have HT2 := Lib.hid (HT.out.set HFZ3.out.1 hd0 99)
                      go_wp2_with fail
                      go_roundw
                      case rel => exact ⟨n + 1, by have := HLT3.out; omega, by go_num, HT2⟩
                      case measure => simp [intOf]; have := HLT3.out; omega
            · clear HLT2
              have p1 := HT.out.slice _ _ _ _ _ HP1.out
              have hc1 := HT.out.slice _ _ _ _ _ HC1.out
              obtain ⟨m1, he1⟩ := HT.out.int _ _ _ _ HE1.out
              have hz1 := HT.out.free _ _ (HFZ2.out.2 (off2 + j * 5 + 1))
              have HT2 := Lib.hid (HT.out.set HFZ2.out.1 he1 9)
              go_wp2_with fail
              go_roundw
              case rel => exact ⟨j + 1, by omega, by go_num, HT2⟩
              case measure => simp [intOf]; omega
        · obtain ⟨m1, hc0⟩ := HT.out.int _ _ _ _ HC0.out
          have hz1 := HT.out.free _ _ (HFZ.out.2 (off + k * 2))
          have HT2 := Lib.hid (HT.out.set HFZ.out.1 hc0 (-7))
          go_wp2_with fail
          go_roundw
          case rel => exact ⟨k + 1, by have := HLT.out; omega, by go_num, HT2⟩
          case measure => simp [intOf]; have := HLT.out; omega
    · clear p1
      have p1 := HT.out.slice _ _ _ _ _ HP1.out
      have p0 := HT.out.slice _ _ _ _ _ HP0.out
      go_wp2_with fail
      go_loopw [8] (fun i wr => ∃ k : Nat, k ≤ types.length ∧ i = .int .i64 k ∧ Hid (Turned lo w1 wr)) (fun i _ => types.length - (intOf i).toNat)
      case atStart => exact ⟨0, Nat.zero_le _, rfl, HT⟩
      case round =>
        clear p0 p1 HT
        obtain ⟨k, hk, rfl, HT⟩ := hrel
        have p0 := HT.out.slice _ _ _ _ _ HP0.out
        by_cases hlt : k < types.length
        · have ⟨b, off, hA, hb, d0, _, _, _⟩ := (HP.out.types.rows.elem hlt).at_
          subst hA
          obtain ⟨hlb, hfz⟩ := HM.out.types.free (by show 0 < types.length; omega)
          obtain ⟨m2, hy⟩ := HT.out.int _ _ _ _ d0
          have hz := HT.out.free _ _ (hfz (off + k * 4))
          have HT2 := Lib.hid (HT.out.set hlb hy 9)
          have HLT4 := Lib.hid hlt
          have hm0 : (0 : Int) ≤ (k : Int) := Int.natCast_nonneg _
          have hm1 : (k : Int) < (types.length : Int) := by omega
          clear d0 hfz hlt
          go_wp2_with fail
          go_roundw
          case rel => exact ⟨k + 1, by have := HLT4.out; omega, by go_num, HT2⟩
          case measure => simp [intOf]; have := HLT4.out; omega
        · go_wp2_with fail
          refine bodyPost_end (results_none rfl _ _ _) rfl ?_
          exact ⟨⟨_, rfl⟩, HB1.out.trans HT.out.below⟩
end Go.Proofs.YtcbhmpkginebaaaDoor
