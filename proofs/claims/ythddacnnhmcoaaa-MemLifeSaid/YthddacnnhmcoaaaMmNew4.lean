/-
  The reference's Made: a memory's twin, and one block more.
-/
import Derived.Test.YthddacnnhmcoaaaMmNew3
import Derived.Test.YthddacnnhmcoaaaMmTwin
import Derived.Test.YthddacnnhmcoaaaMmRef2
import Derived.Deep.RegionHeld3
namespace Go.Proofs.Ythddacnnhmcoaaa
set_option linter.unusedVariables false
set_option linter.unusedSimpArgs false
open Go.ChangeShapes Go.WideShapes Go.ChangeAt Go.RowKit

/-- A memory's twin, made somewhere behind w, two boxes being laid. -/
def TwinAt (f : FuncId) (w : World) (rows : List BkR) (A : Option Addr) (c : Nat) (t3 t5 : TypeId) (s3 s5 : Array Value) : Prop :=
  ∀ W0, Below w.heap.size w W0 → w.heap.size + 2 ≤ W0.heap.size → Blk W0 w.heap.size t3 s3 → Blk W0 (w.heap.size + 1) t5 s5 → Calls Try.prog f #[.slice A rows.length c] W0 fun e w1 => ∃ v rows2, e = .returned v ∧ OwnBl w1 (w.heap.size + 2) v rows2 ∧ mmb rows2 = mmb rows ∧ Below w.heap.size w w1 ∧ w.heap.size + 2 ≤ w1.heap.size ∧
    Blk w1 w.heap.size t3 s3 ∧ Blk w1 (w.heap.size + 1) t5 s5 ∧ (∀ k, k < W0.heap.size → w1.heap[k]? = W0.heap[k]?)
theorem TwinAt.of {f : FuncId} {w : World} {rows : List BkR} {A : Option Addr} {c : Nat} (h : ∀ W0, Below w.heap.size w W0 → Calls Try.prog f #[.slice A rows.length c] W0 (SomeMem (mmb rows) W0)) (t3 t5 : TypeId) (s3 s5 : Array Value) : TwinAt f w rows A c t3 t5 s3 s5 := fun W0 hb hs hb3 hb5 => by
  refine (h W0 hb).mono ?_
  rintro e w1 ⟨v, rows2, rfl, h1, h2, h3⟩
  exact ⟨v, rows2, rfl, h1.more hs, h2, hb.trans (h3.mono hb.size), Nat.le_trans hs h3.size, hb3.beneath h3, hb5.beneath h3, fun k hk => h3.block k hk⟩
set_option maxHeartbeats 1600000 in
theorem rmade_any {w : World} {A : Option Addr} {c : Nat} {rows : List BkR} (h : MemFew w A c rows) {lo : Nat} (r : BkR) (hr : r.Ok w 0 w.heap.size)
    (hold : 0 < r.cells.length → ∃ b o, r.ca = some ⟨b, o, none⟩ ∧ lo ≤ b ∧ TBlk w b 29) (hlo : lo ≤ w.heap.size) :
    Calls Try.prog 40 #[.slice A rows.length c, .agg #[.int .i64 r.site, .int .i64 r.type, .int .i64 r.depth, .bool r.alive, .slice r.ca r.cells.length r.cc]] w fun e w' =>
      ∃ v rows2, e = .returned (.tuple #[v, valV 2 0 (rows.length + 1) 0]) ∧ OwnBl w' lo v rows2 ∧ mmb rows2 = mmb rows ++ [r.data] ∧ Below w.heap.size w w' := by
  have hlen := h.few
  have HR := Lib.hid hr
  have HOLD := Lib.hid hold
  obtain ⟨rd, hrd⟩ : ∃ rd, r.data = rd := ⟨_, rfl⟩
  rw [hrd]
  have HRD := Lib.hid hrd
  obtain ⟨s, ty, de, al, ca, cc, vs⟩ := r
  have HT : Hid (TwinAt 12 w rows A c 70 29 #[.int .i64 s, .int .i64 ty, .int .i64 de, .bool al, .slice ca vs.length cc] #[.int .u8 0, .int .i64 0, .int .i64 0, .int .i64 0]) := Lib.hid (TwinAt.of (fun W0 hb => rtwinm_any (h.on hb)) _ _ _ _)
  clear h hr hold hrd
  have hwr : IntKind.i64.wrap ((rows.length : Int) + 1) = (rows.length : Int) + 1 := IntWalk.i64_in _ (by omega)
  dsimp only
  go_enter Try.func40, Try.ntmps40
  go_wp2_with fail
  go_region_held3 (fun w' => w'.cell? ⟨w.heap.size, 0, none⟩ = some (.int .i64 s) ∧ w'.cell? ⟨w.heap.size, 1, none⟩ = some (.int .i64 ty) ∧ w'.cell? ⟨w.heap.size, 2, none⟩ = some (.int .i64 de) ∧ w'.cell? ⟨w.heap.size, 3, none⟩ = some (.bool al) ∧ w'.cell? ⟨w.heap.size, 4, none⟩ = some (.slice ca vs.length cc)) (go_keep)
    (first
      | (go_at_call 12
         refine (HT.out _ (by repeat (with_reducible first | exact Below.refl _ _ | refine Below.drew ?_ | refine Below.alloc ?_ (by first | omega | (simp; done) | (simp; omega)) _)) (by first | omega | (simp; done) | (simp; omega))
           (by repeat (with_reducible first | exact Blk.newAt (by first | omega | (simp; done) | (simp; omega)) _ _ | refine Blk.drew ?_ | refine Blk.alloc ?_ _)) (by repeat (with_reducible first | exact Blk.newAt (by first | omega | (simp; done) | (simp; omega)) _ _ | refine Blk.drew ?_ | refine Blk.alloc ?_ _))).mono ?_
         rintro e w1 ⟨v1, rows2, rfl, hown1, hmm1, hb1, hs1, h3, h5, hk9⟩
         have hl2 := congrArg List.length hmm1
         rw [mmb_len, mmb_len] at hl2
         have k0 := h3.cells 0
         have k1 := h3.cells 1
         have k2 := h3.cells 2
         have k3 := h3.cells 3
         have k4 := h3.cells 4
         have H3 := Lib.hid h3
         have H5 := Lib.hid h5
         have HO1 := Lib.hid hown1
         have HB1 := Lib.hid hb1
         have HM1 := Lib.hid hmm1
         clear hown1 hb1 hmm1 h3 h5)
      | (refine step_appBlk rfl (.tmp 7) (.tmp 9) rfl w _ lo (w.heap.size + 2) _ _ ⟨s, ty, de, al, ca, cc, vs⟩ (by rfl) HO1.out
           (by first | (with_reducible exact Kept.refl _ _) | (exact (Kept.refl _ _).alloc _))
           (by first | (with_reducible exact HB1.out) | (exact HB1.out.alloc (by first | omega | (simp; done) | (simp; omega)) _)) _ (by rfl)
           (by first | (with_reducible exact Blk.newAt (by first | omega | (simp; done) | (simp; omega)) _ _) | (exact Blk.ofEq (hk9 _ (by first | omega | (simp; done) | (simp; omega))) (Blk.newAt (by first | omega | (simp; done) | (simp; omega)) _ _)))
           HR.out HOLD.out hlo (by omega) (by omega) (by omega) ?_
         intro v2 w2 hown2 hg2 hvb hst
         (first | have h3 := Blk.grown H3.out hg2 (fun e => by have := hvb _ e; omega) | have h3 := Blk.grown (H3.out.alloc _) hg2 (fun e => by have := hvb _ e; omega))
         (first | have h5 := Blk.grown H5.out hg2 (fun e => by have := hvb _ e; omega) | have h5 := Blk.grown (H5.out.alloc _) hg2 (fun e => by have := hvb _ e; omega))
         have j0 := h3.cells 0
         have j1 := h3.cells 1
         have j2 := h3.cells 2
         have j3 := h3.cells 3
         have j4 := h3.cells 4
         have i0 := h5.cells 0
         have i1 := h5.cells 1
         have i2 := h5.cells 2
         have i3 := h5.cells 3
         have f0 := h5.free 0
         have f1 := h5.free 1
         have f2 := h5.free 2
         have f3 := h5.free 3
         have PB := Lib.hid (put4 h5 (.int .u8 2) (.int .i64 0) (.int .i64 (rows.length + 1)) (.int .i64 0))
         have HNS := Lib.hid (show ¬ Stands v2 (rows2 ++ [⟨s, ty, de, al, ca, cc, vs⟩]) (w.heap.size + 1) from fun hs => by rcases hst _ hs with h9 | h9 <;> omega)
         have HB2 := Lib.hid (Below.grown (B := w.heap.size) (a := w) (by first | (with_reducible exact HB1.out) | (exact HB1.out.alloc (by first | omega | (simp; done) | (simp; omega)) _)) hg2 (by first | omega | (simp; done) | (simp; omega)) (fun k hk => by have := hvb _ hk; omega))
         have HO2 := Lib.hid hown2
         have HG2 := Lib.hid hg2
         clear hown2 hg2 h3 h5 hst))
  all_goals
    go_wp2_with fail
    have q0 := PB.out.cells 0
    have q1 := PB.out.cells 1
    have q2 := PB.out.cells 2
    have q3 := PB.out.cells 3
    exact bodyPost_ret (v := .tuple #[v2, valV 2 0 (rows.length + 1) 0]) (by simp [results, Try.results40, go_sem, q0, q1, q2, q3]) rfl ⟨_, rows2 ++ [⟨s, ty, de, al, ca, cc, vs⟩], rfl, by repeat (with_reducible first | exact HO2.out | refine OwnBl.off ?_ HNS.out _), by unfold mmb; rw [List.map_append, ← mmb, ← mmb, HM1.out, ← HRD.out]; rfl, below4 HB2.out⟩
end Go.Proofs.Ythddacnnhmcoaaa
