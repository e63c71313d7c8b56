/-
  A region that draws its order, whose last operation waits for all others: a condition on the world that holds behind each operation but the last one. And what stands on it: RdWord, RdMarks, RdNum, RdKind, RdEnd.
-/
import Derived.Test.YtbffebcjimhapaaGreatDoorMg16
import Derived.OrdersHeld
import Derived.Deep.RegionHeld3
import Derived.StillTail
import Derived.WalkLawsBesides
namespace Go.Proofs.YtbffebcjimhapaaGreatDoor
set_option linter.unusedVariables false
set_option linter.unusedSimpArgs false
section
variable {P : Program} {ops : Array Oper} {Q : Exit → Act → World → Prop} {md : Region.Mode} {S : World → Prop} {last : Nat}
def wpAnyT (P : Program) (md : Region.Mode) (ops : Array Oper) (Q : Exit → Act → World → Prop) (S : World → Prop) (last : Nat) : Nat → Array Bool → Act → World → Prop
 | 0, listed, a, w => Region.ready md ops listed = [] ∧ Q .normal a w
 | fuel + 1, listed, a, w =>
   (Region.ready md ops listed = [] → Q .normal a w) ∧
   ∀ i ∈ Region.ready md ops listed, wpOp P ops Q i (fun a' w' => (i ≠ last → S w') ∧ wpAnyT P md ops Q S last fuel (listed.setIfInBounds i true) a' w') a w
theorem wpAny_of_T : ∀ (fuel : Nat) (listed : Array Bool) (a : Act) (w : World), wpAnyT P md ops Q S last fuel listed a w → wpAny P md ops Q fuel listed a w
 | 0, _, _, _, h => h
 | fuel + 1, _, _, _, h => ⟨h.1, fun i hi => wpOp_mono (fun a' w' h' => wpAny_of_T fuel _ a' w' h'.2) (h.2 i hi)⟩
theorem wpAnyT_first {i : Nat} {oi : Oper} {v : Value} (hl : Region.waitsFor md ops last i = true) (hil : i ≠ last) (hi : ops[i]? = some oi) (hsel : ∀ (j : Nat) (o : Oper) cs b, ops[j]? = some o → o.op ≠ .select cs b)
 (hQ : ∀ c a w, Q (.panic c) (a.put oi.dst v) w → Q (.panic c) a w) :
 ∀ (fuel : Nat) (listed : Array Bool) (a : Act) (w : World),
  (∀ j oj, ops[j]? = some oj → j ≠ i → listed.getD j true = false → (∀ e ∈ oj.after, Region.binds md e = true → e.on ≠ i) → oi.apart ops oj = true) →
  i ∈ Region.ready md ops listed → YieldsIf P ops S oi v a → S w →
  wpAnyT P md ops Q S last fuel (listed.setIfInBounds i true) (a.put oi.dst v) w → wpAnyT P md ops Q S last (fuel + 1) listed a w := by
 intro fuel
 induction fuel with
 | zero =>
   intro listed a w _ hr hy hS H
   refine ⟨fun h => (by rw [h] at hr; cases hr), fun j hj => ?_⟩
   by_cases hji : j = i
   · subst hji; exact hy.wpOp hi hS ⟨fun _ => hS, H⟩
   · have := ready_mono hj hji
     rw [H.1] at this
     cases this
 | succ fuel ih =>
   intro listed a w hfree hr hy hS H
   refine ⟨fun h => (by rw [h] at hr; cases hr), fun j hj => ?_⟩
   by_cases hji : j = i
   · subst hji; exact hy.wpOp hi hS ⟨fun _ => hS, H⟩
   · have h1 := H.2 j (ready_mono hj hji)
     obtain ⟨hjun, oj, hoj, hall⟩ := mem_ready.1 hj
     have hnot : ∀ e ∈ oj.after, Region.binds md e = true → e.on ≠ i := fun e he hb heq => by
      have h1 := hall e he hb
      have h0 := (mem_ready.1 hr).1
      rw [heq] at h1
      rcases Nat.lt_or_ge i listed.size with h' | h'
      · simp [h'] at h0 h1; rw [h0] at h1; cases h1
      · simp [Array.getElem?_eq_none h'] at h1
     have hjl : j ≠ last := fun e => by
      subst e
      obtain ⟨o2, ho2, e, he, hb, hon⟩ := Region.waitsFor_spec hl
      have : o2 = oj := Option.some.inj (ho2.symm.trans hoj)
      subst this
      exact hnot e he hb hon
     have h2 := wpOp_putIf hoj (hfree j oj hoj hji hjun hnot) (fun cs b => hsel i oi cs b hi) (fun cs b => hsel j oj cs b hoj) hQ hy h1
     have hfree' : ∀ k ok, ops[k]? = some ok → k ≠ i → (listed.setIfInBounds j true).getD k true = false →
      (∀ e ∈ ok.after, Region.binds md e = true → e.on ≠ i) → oi.apart ops ok = true := fun k ok hk hki hun hno => by
      refine hfree k ok hk hki ?_ hno
      by_cases hjk : j = k
      · subst hjk; exact hjun
      · rw [getD_set_ne true hjk] at hun; exact hun
     refine wpOp_mono (fun a' w' h3 => ⟨h3.2.1, ih (listed.setIfInBounds j true) a' w' hfree' (ready_mono hr (Ne.symm hji)) h3.1 (h3.2.1 hjl) ?_⟩) h2
     rw [Array.setIfInBounds_comm _ _ hji]
     exact h3.2.2
theorem wpAnyT_take {i : Nat} {oi : Oper} {v : Value} {fuel : Nat} {listed : Array Bool} {a : Act} {w : World} (hl : Region.waitsFor md ops last i = true) (hil : i ≠ last) (hi : ops[i]? = some oi)
 (hs : Region.noSelect ops = true) (hf : Region.free md ops listed i = true) (hr : (Region.ready md ops listed).contains i = true)
 (hQ : ∀ c a w, Q (.panic c) (a.put oi.dst v) w → Q (.panic c) a w) (hy : YieldsIf P ops S oi v a) (hS : S w)
 (h : wpAnyT P md ops Q S last fuel (listed.setIfInBounds i true) (a.put oi.dst v) w) : wpAnyT P md ops Q S last (fuel + 1) listed a w :=
 wpAnyT_first hl hil hi (Region.noSelect_spec hs) hQ fuel listed a w (Region.free_spec hi hf) (by simpa using hr) hy hS h
theorem wpAnyT_one {i : Nat} {o : Oper} {fuel : Nat} {listed : Array Bool} {a : Act} {w : World} (hr : Region.ready md ops listed = [i]) (ho : ops[i]? = some o)
 (h : ∀ K' : Act → World → Prop, Shut (∀ a w, (i ≠ last → S w) → ((i ≠ last → S w) → wpAnyT P md ops Q S last fuel (listed.setIfInBounds i true) a w) → K' a w) → if Region.wanted o (yielded ops a.tmps) = true then Oper.wp P o a w K' Q else K' (a.put o.dst undef) w) :
 wpAnyT P md ops Q S last (fuel + 1) listed a w := by
 refine ⟨fun h0 => (by rw [hr] at h0; cases h0), fun j hj => ?_⟩
 rw [hr, List.mem_singleton] at hj
 subst hj
 exact wpOp_step ho (fun K' hK => h K' (fun a w hS hW => hK a w ⟨hS, hW hS⟩))
theorem wpAnyT_done {listed : Array Bool} {a : Act} {w : World} (hr : Region.ready md ops listed = []) (h : Q .normal a w) : ∀ fuel, wpAnyT P md ops Q S last fuel listed a w
 | 0 => ⟨hr, h⟩
 | _ + 1 => ⟨fun _ => h, by rw [hr]; simp⟩
theorem wp_region_T {id : Nat} {a : Act} {w : World} (S : World → Prop) (last : Nat) (hm : P.follows .mixedOrders = true) (hS : S w.drew)
 (h : S w.drew → wpAnyT P .any ops Q S last ops.size (Array.replicate ops.size false) a w.drew) : (Code.region id ops true).wp P Q a w :=
 wp_region_any hm (wpAny_of_T _ _ _ _ (h hS))
end
end Go.Proofs.YtbffebcjimhapaaGreatDoor
namespace Go.Proofs.YtbffebcjimhapaaGreatDoor
set_option linter.unusedVariables false
set_option linter.unusedSimpArgs false
open Go.ChangeShapes Go.WideShapes Go.ChangeAt Go.RowKit
theorem need_yes (w : World) : Calls Tryz.prog 60 #[.bool true] w fun e w' => e = .returned (.tuple #[]) ∧ w' = w := by
 go_enter Tryz.func60, Tryz.ntmps60
 go_wp2_with fail
 refine bodyPost_end (results_none rfl _ _ _) rfl ?_
 exact ⟨rfl, rfl⟩
theorem need_no (w : World) : Calls Tryz.prog 60 #[.bool false] w fun e w' => e = giveUp ∧ w' = w := by
 have hb : Tryz.prog.built 49 [] = some #[] := by kernel_rfl
 go_enter Tryz.func60, Tryz.ntmps60
 go_wp2_with fail
 exact ⟨rfl, rfl, rfl⟩
section
variable {g : Nat} {w : World} {l : LsR} {x : LnR} {tv fv : Value}
def NextOut (w : World) (g : Nat) (l : LsR) (tv fv : Value) : List LnR → Ending → World → Prop
 | [], e, w' => e = .returned (.bool false) ∧ w' = w
 | r :: _, e, w' => e = .returned (.bool true) ∧ Rdr w' g l.rest r tv fv ∧ Tn g w w'
theorem next_any (h : Rdr w g l x tv fv) : Calls Tryz.prog 57 #[.pointer (some ⟨g, 0, none⟩)] w (NextOut w g l tv fv l.rows) := by
 have hl := h.lines.hdr.cle
 by_cases hn : l.rows.length = 0
 · have he : l.rows = [] := List.eq_nil_of_length_eq_zero hn
   rw [he]
   have c0 := h.blk.cells 0
   rw [hn] at c0
   go_enter Tryz.func57, Tryz.ntmps57
   go_wp2_with fail
   go_ret
   exact ⟨rfl, rfl⟩
 · obtain ⟨b, off, r, ha, hb, hc, hr, hrow, hrest⟩ := h.lines.first (by omega)
   rw [hrow]
   have hcap : l.rows.length ≤ l.c := h.lines.hdr.fit
   have h2 := Rdr.turned h hrow
   have ht : Tn g w ((w.setCell ⟨g, 1, none⟩ (.slice r.a r.xs.length r.c)).setCell ⟨g, 0, none⟩ (.slice l.rest.a l.rest.rows.length l.rest.c)) := (Tn.set w 1 _).put 0 _
   have hlen : (l.rest.rows.length : Nat) = l.rows.length - 1 := by show (l.rows.drop 1).length = _; rw [List.length_drop]
   have z0 := h.blk.free 0
   have z1 := h.blk.free 1
   have c1 : w.cell? ⟨g, 1, none⟩ = some (.slice x.a x.xs.length x.c) := h.blk.cells 1
   obtain ⟨c, hcx⟩ : ∃ c, l.c = c := ⟨_, rfl⟩
   have c0 : w.cell? ⟨g, 0, none⟩ = some (.slice (some ⟨b, off, none⟩) l.rows.length c) := (h.blk.cells 0).trans (by rw [ha, hcx]; rfl)
   clear hcap
   obtain ⟨A1, hA1⟩ : ∃ A1, A1 = (if c = 1 then some (⟨b, off, none⟩ : Addr) else some ⟨b, off + 1, none⟩) := ⟨_, rfl⟩
   rw [hcx, ← hA1] at hrest
   rw [show (Value.slice l.rest.a l.rest.rows.length l.rest.c) = Value.slice A1 (l.rows.length - 1) (c - 1) by rw [hrest, hlen]] at h2 ht
   have q0 : ¬ (l.rows.length : Int) = 0 := by omega
   have q1 : (0 : Int) < l.rows.length := by omega
   have q2 : (1 : Int) ≤ l.rows.length := by omega
   have q3 : 0 < l.rows.length := by omega
   have q4 : 1 ≤ l.rows.length := by omega
   have h1 := h.blk.put 1 (.slice r.a r.xs.length r.c)
   have hnb : b ≠ g := fun e => by
    obtain ⟨b', o', e', cur, hbl⟩ := h.lines.blk (by omega)
    rw [ha] at e'
    injection e' with e'
    injection e' with e' _ _
    rw [← e', e] at hbl
    have hgb : w.heap[g]? = some (.cells _ 55 (0, 0)) := h.blk
    rw [hgb] at hbl
    injection hbl with hbl
    injection hbl with _ hbl _
    exact absurd hbl (by decide)
   have HC0 : Hid ((w.setCell ⟨g, 1, none⟩ (.slice r.a r.xs.length r.c)).cell? ⟨g, 0, none⟩ = some (.slice (some ⟨b, off, none⟩) l.rows.length c)) := Lib.hid ((h1.cells 0).trans (by rw [← ha, ← hcx]; rfl))
   have HC1 : Hid ((w.setCell ⟨g, 1, none⟩ (.slice r.a r.xs.length r.c)).cell? ⟨b, off, none⟩ = some (.slice r.a r.xs.length r.c)) := Lib.hid (by rw [World.cell?_setCell_other _ _ _ _ (fun e => hnb (congrArg Addr.block e).symm)]; exact hc)
   clear h1 hnb
   have H2 := Lib.hid h2
   have HT := Lib.hid ht
   clear h2 ht hrest hlen hrow h hcx ha
   by_cases hcc : c = 1
   · rw [if_pos hcc] at hA1
     subst hA1
     subst hcc
     go_enter Tryz.func57, Tryz.ntmps57
     go_wp2_with fail
     refine wp_region_T (fun w' => w'.cell? ⟨g, 0, none⟩ = some (.slice (some ⟨b, off, none⟩) l.rows.length 1) ∧ w'.cell? ⟨b, off, none⟩ = some (.slice r.a r.xs.length r.c)) 18 (by kernel_rfl) ⟨c0, hc⟩ (fun hHeld => ?_)
     refine wpAnyT_take (i := 0) (by kernel_rfl) (by decide) rfl (by kernel_rfl) (by kernel_rfl) (by kernel_rfl) (fun _ _ _ h => h) (Or.inl ⟨by rfl, by (intro w hSw; (try dsimp only at hSw); go_simp; (try with_reducible rfl))⟩) (by assumption) ?_; (try simp only [Act.put, List.setIfInBounds_toArray, List.set_cons_zero, List.set_cons_succ])
     refine wpAnyT_take (i := 1) (by kernel_rfl) (by decide) rfl (by kernel_rfl) (by kernel_rfl) (by kernel_rfl) (fun _ _ _ h => h) (Or.inl ⟨by rfl, by (intro w hSw; (try dsimp only at hSw); go_simp; (try with_reducible rfl))⟩) (by assumption) ?_; (try simp only [Act.put, List.setIfInBounds_toArray, List.set_cons_zero, List.set_cons_succ])
     refine wpAnyT_take (i := 2) (by kernel_rfl) (by decide) rfl (by kernel_rfl) (by kernel_rfl) (by kernel_rfl) (fun _ _ _ h => h) (Or.inl ⟨by rfl, by (intro w hSw; (try dsimp only at hSw); go_simp; (try with_reducible rfl))⟩) (by assumption) ?_; (try simp only [Act.put, List.setIfInBounds_toArray, List.set_cons_zero, List.set_cons_succ])
     refine wpAnyT_take (i := 3) (by kernel_rfl) (by decide) rfl (by kernel_rfl) (by kernel_rfl) (by kernel_rfl) (fun _ _ _ h => h) (Or.inl ⟨by rfl, by (intro w hSw; (try dsimp only at hSw); go_simp; (try with_reducible rfl))⟩) (by assumption) ?_; (try simp only [Act.put, List.setIfInBounds_toArray, List.set_cons_zero, List.set_cons_succ])
     refine wpAnyT_take (i := 4) (by kernel_rfl) (by decide) rfl (by kernel_rfl) (by kernel_rfl) (by kernel_rfl) (fun _ _ _ h => h) (Or.inl ⟨by rfl, by (intro w hSw; (try dsimp only at hSw); go_simp; (try with_reducible rfl))⟩) (by assumption) ?_; (try simp only [Act.put, List.setIfInBounds_toArray, List.set_cons_zero, List.set_cons_succ])
     refine wpAnyT_take (i := 5) (by kernel_rfl) (by decide) rfl (by kernel_rfl) (by kernel_rfl) (by kernel_rfl) (fun _ _ _ h => h) (Or.inl ⟨by rfl, by (intro w hSw; (try dsimp only at hSw); go_simp; (try with_reducible rfl))⟩) (by assumption) ?_; (try simp only [Act.put, List.setIfInBounds_toArray, List.set_cons_zero, List.set_cons_succ])
     refine wpAnyT_take (i := 6) (by kernel_rfl) (by decide) rfl (by kernel_rfl) (by kernel_rfl) (by kernel_rfl) (fun _ _ _ h => h) (Or.inl ⟨by rfl, by (intro w hSw; (try dsimp only at hSw); go_simp; (try with_reducible rfl))⟩) (by assumption) ?_; (try simp only [Act.put, List.setIfInBounds_toArray, List.set_cons_zero, List.set_cons_succ])
     refine wpAnyT_take (i := 7) (by kernel_rfl) (by decide) rfl (by kernel_rfl) (by kernel_rfl) (by kernel_rfl) (fun _ _ _ h => h) (Or.inl ⟨by rfl, by (intro w hSw; (try dsimp only at hSw); go_simp; (try with_reducible rfl))⟩) (by assumption) ?_; (try simp only [Act.put, List.setIfInBounds_toArray, List.set_cons_zero, List.set_cons_succ])
     refine wpAnyT_take (i := 8) (by kernel_rfl) (by decide) rfl (by kernel_rfl) (by kernel_rfl) (by kernel_rfl) (fun _ _ _ h => h) (Or.inl ⟨by rfl, by (intro w hSw; (try dsimp only at hSw); go_simp; (try with_reducible rfl))⟩) (by assumption) ?_; (try simp only [Act.put, List.setIfInBounds_toArray, List.set_cons_zero, List.set_cons_succ])
     refine wpAnyT_take (i := 9) (by kernel_rfl) (by decide) rfl (by kernel_rfl) (by kernel_rfl) (by kernel_rfl) (fun _ _ _ h => h) (Or.inl ⟨by rfl, by (intro w hSw; (try dsimp only at hSw); go_simp; (try with_reducible rfl))⟩) (by assumption) ?_; (try simp only [Act.put, List.setIfInBounds_toArray, List.set_cons_zero, List.set_cons_succ])
     refine wpAnyT_take (i := 10) (by kernel_rfl) (by decide) rfl (by kernel_rfl) (by kernel_rfl) (by kernel_rfl) (fun _ _ _ h => h) (Or.inl ⟨by rfl, by (intro w hSw; (try dsimp only at hSw); go_simp; (try with_reducible rfl))⟩) (by assumption) ?_; (try simp only [Act.put, List.setIfInBounds_toArray, List.set_cons_zero, List.set_cons_succ])
     refine wpAnyT_take (i := 11) (by kernel_rfl) (by decide) rfl (by kernel_rfl) (by kernel_rfl) (by kernel_rfl) (fun _ _ _ h => h) (Or.inl ⟨by rfl, by (intro w hSw; (try dsimp only at hSw); go_simp; (try with_reducible rfl))⟩) (by assumption) ?_; (try simp only [Act.put, List.setIfInBounds_toArray, List.set_cons_zero, List.set_cons_succ])
     refine wpAnyT_take (i := 12) (by kernel_rfl) (by decide) rfl (by kernel_rfl) (by kernel_rfl) (by kernel_rfl) (fun _ _ _ h => h) (Or.inl ⟨by rfl, by (intro w hSw; (try dsimp only at hSw); go_simp; (try with_reducible rfl))⟩) (by assumption) ?_; (try simp only [Act.put, List.setIfInBounds_toArray, List.set_cons_zero, List.set_cons_succ])
     refine wpAnyT_take (i := 13) (by kernel_rfl) (by decide) rfl (by kernel_rfl) (by kernel_rfl) (by kernel_rfl) (fun _ _ _ h => h) (Or.inl ⟨by rfl, by (intro w hSw; (try dsimp only at hSw); go_simp; (try with_reducible rfl))⟩) (by assumption) ?_; (try simp only [Act.put, List.setIfInBounds_toArray, List.set_cons_zero, List.set_cons_succ])
     refine wpAnyT_take (i := 14) (by kernel_rfl) (by decide) rfl (by kernel_rfl) (by kernel_rfl) (by kernel_rfl) (fun _ _ _ h => h) (Or.inl ⟨by rfl, by (intro w hSw; (try dsimp only at hSw); go_simp; (try with_reducible rfl))⟩) (by assumption) ?_; (try simp only [Act.put, List.setIfInBounds_toArray, List.set_cons_zero, List.set_cons_succ])
     refine wpAnyT_one (i := 15) (by kernel_rfl) rfl (fun K hK => ?_)
     go_simp
     have e0 : (w.drew.setCell ⟨g, 1, none⟩ (.slice r.a r.xs.length r.c)).cell? ⟨g, 0, none⟩ = some (.slice (some ⟨b, off, none⟩) l.rows.length 1) := HC0.out
     have e1 : (w.drew.setCell ⟨g, 1, none⟩ (.slice r.a r.xs.length r.c)).cell? ⟨b, off, none⟩ = some (.slice r.a r.xs.length r.c) := HC1.out
     refine hK.out _ _ (fun _ => ⟨e0, e1⟩) (fun hH => ?_); clear hHeld hK K; have hHeld := hH (by decide); clear hH
     refine wpAnyT_one (i := 16) (by kernel_rfl) rfl (fun K hK => ?_)
     go_simp
     refine hK.out _ _ (fun _ => ⟨e0, e1⟩) (fun hH => ?_); clear hHeld hK K; have hHeld := hH (by decide); clear hH
     refine wpAnyT_one (i := 17) (by kernel_rfl) rfl (fun K hK => ?_)
     go_simp
     refine hK.out _ _ (fun _ => ⟨e0, e1⟩) (fun hH => ?_); clear hHeld hK K; have hHeld := hH (by decide); clear hH
     refine wpAnyT_one (i := 18) (by kernel_rfl) rfl (fun K hK => ?_)
     go_simp
     refine hK.out _ _ (fun e => absurd rfl e) (fun hH => ?_); refine wpAnyT_done (by kernel_rfl) ?_ _; clear hHeld hK K hH
     go_wp2_with fail
     go_ret
     exact ⟨rfl, H2.out.on ((Below.refl _ _).drew), HT.out.on ((Below.refl _ _).drew)⟩
   · rw [if_neg hcc] at hA1
     subst hA1
     go_enter Tryz.func57, Tryz.ntmps57
     go_wp2_with fail
     refine wp_region_T (fun w' => w'.cell? ⟨g, 0, none⟩ = some (.slice (some ⟨b, off, none⟩) l.rows.length c) ∧ w'.cell? ⟨b, off, none⟩ = some (.slice r.a r.xs.length r.c)) 18 (by kernel_rfl) ⟨c0, hc⟩ (fun hHeld => ?_)
     refine wpAnyT_take (i := 0) (by kernel_rfl) (by decide) rfl (by kernel_rfl) (by kernel_rfl) (by kernel_rfl) (fun _ _ _ h => h) (Or.inl ⟨by rfl, by (intro w hSw; (try dsimp only at hSw); go_simp; (try with_reducible rfl))⟩) (by assumption) ?_; (try simp only [Act.put, List.setIfInBounds_toArray, List.set_cons_zero, List.set_cons_succ])
     refine wpAnyT_take (i := 1) (by kernel_rfl) (by decide) rfl (by kernel_rfl) (by kernel_rfl) (by kernel_rfl) (fun _ _ _ h => h) (Or.inl ⟨by rfl, by (intro w hSw; (try dsimp only at hSw); go_simp; (try with_reducible rfl))⟩) (by assumption) ?_; (try simp only [Act.put, List.setIfInBounds_toArray, List.set_cons_zero, List.set_cons_succ])
     refine wpAnyT_take (i := 2) (by kernel_rfl) (by decide) rfl (by kernel_rfl) (by kernel_rfl) (by kernel_rfl) (fun _ _ _ h => h) (Or.inl ⟨by rfl, by (intro w hSw; (try dsimp only at hSw); go_simp; (try with_reducible rfl))⟩) (by assumption) ?_; (try simp only [Act.put, List.setIfInBounds_toArray, List.set_cons_zero, List.set_cons_succ])
     refine wpAnyT_take (i := 3) (by kernel_rfl) (by decide) rfl (by kernel_rfl) (by kernel_rfl) (by kernel_rfl) (fun _ _ _ h => h) (Or.inl ⟨by rfl, by (intro w hSw; (try dsimp only at hSw); go_simp; (try with_reducible rfl))⟩) (by assumption) ?_; (try simp only [Act.put, List.setIfInBounds_toArray, List.set_cons_zero, List.set_cons_succ])
     refine wpAnyT_take (i := 4) (by kernel_rfl) (by decide) rfl (by kernel_rfl) (by kernel_rfl) (by kernel_rfl) (fun _ _ _ h => h) (Or.inl ⟨by rfl, by (intro w hSw; (try dsimp only at hSw); go_simp; (try with_reducible rfl))⟩) (by assumption) ?_; (try simp only [Act.put, List.setIfInBounds_toArray, List.set_cons_zero, List.set_cons_succ])
     refine wpAnyT_take (i := 5) (by kernel_rfl) (by decide) rfl (by kernel_rfl) (by kernel_rfl) (by kernel_rfl) (fun _ _ _ h => h) (Or.inl ⟨by rfl, by (intro w hSw; (try dsimp only at hSw); go_simp; (try with_reducible rfl))⟩) (by assumption) ?_; (try simp only [Act.put, List.setIfInBounds_toArray, List.set_cons_zero, List.set_cons_succ])
     refine wpAnyT_take (i := 6) (by kernel_rfl) (by decide) rfl (by kernel_rfl) (by kernel_rfl) (by kernel_rfl) (fun _ _ _ h => h) (Or.inl ⟨by rfl, by (intro w hSw; (try dsimp only at hSw); go_simp; (try with_reducible rfl))⟩) (by assumption) ?_; (try simp only [Act.put, List.setIfInBounds_toArray, List.set_cons_zero, List.set_cons_succ])
     refine wpAnyT_take (i := 7) (by kernel_rfl) (by decide) rfl (by kernel_rfl) (by kernel_rfl) (by kernel_rfl) (fun _ _ _ h => h) (Or.inl ⟨by rfl, by (intro w hSw; (try dsimp only at hSw); go_simp; (try with_reducible rfl))⟩) (by assumption) ?_; (try simp only [Act.put, List.setIfInBounds_toArray, List.set_cons_zero, List.set_cons_succ])
     refine wpAnyT_take (i := 8) (by kernel_rfl) (by decide) rfl (by kernel_rfl) (by kernel_rfl) (by kernel_rfl) (fun _ _ _ h => h) (Or.inl ⟨by rfl, by (intro w hSw; (try dsimp only at hSw); go_simp; (try with_reducible rfl))⟩) (by assumption) ?_; (try simp only [Act.put, List.setIfInBounds_toArray, List.set_cons_zero, List.set_cons_succ])
     refine wpAnyT_take (i := 9) (by kernel_rfl) (by decide) rfl (by kernel_rfl) (by kernel_rfl) (by kernel_rfl) (fun _ _ _ h => h) (Or.inl ⟨by rfl, by (intro w hSw; (try dsimp only at hSw); go_simp; (try with_reducible rfl))⟩) (by assumption) ?_; (try simp only [Act.put, List.setIfInBounds_toArray, List.set_cons_zero, List.set_cons_succ])
     refine wpAnyT_take (i := 10) (by kernel_rfl) (by decide) rfl (by kernel_rfl) (by kernel_rfl) (by kernel_rfl) (fun _ _ _ h => h) (Or.inl ⟨by rfl, by (intro w hSw; (try dsimp only at hSw); go_simp; (try with_reducible rfl))⟩) (by assumption) ?_; (try simp only [Act.put, List.setIfInBounds_toArray, List.set_cons_zero, List.set_cons_succ])
     refine wpAnyT_take (i := 11) (by kernel_rfl) (by decide) rfl (by kernel_rfl) (by kernel_rfl) (by kernel_rfl) (fun _ _ _ h => h) (Or.inl ⟨by rfl, by (intro w hSw; (try dsimp only at hSw); go_simp; (try with_reducible rfl))⟩) (by assumption) ?_; (try simp only [Act.put, List.setIfInBounds_toArray, List.set_cons_zero, List.set_cons_succ])
     refine wpAnyT_take (i := 12) (by kernel_rfl) (by decide) rfl (by kernel_rfl) (by kernel_rfl) (by kernel_rfl) (fun _ _ _ h => h) (Or.inl ⟨by rfl, by (intro w hSw; (try dsimp only at hSw); go_simp; (try with_reducible rfl))⟩) (by assumption) ?_; (try simp only [Act.put, List.setIfInBounds_toArray, List.set_cons_zero, List.set_cons_succ])
     refine wpAnyT_take (i := 13) (by kernel_rfl) (by decide) rfl (by kernel_rfl) (by kernel_rfl) (by kernel_rfl) (fun _ _ _ h => h) (Or.inl ⟨by rfl, by (intro w hSw; (try dsimp only at hSw); go_simp; (try with_reducible rfl))⟩) (by assumption) ?_; (try simp only [Act.put, List.setIfInBounds_toArray, List.set_cons_zero, List.set_cons_succ])
     refine wpAnyT_take (i := 14) (by kernel_rfl) (by decide) rfl (by kernel_rfl) (by kernel_rfl) (by kernel_rfl) (fun _ _ _ h => h) (Or.inl ⟨by rfl, by (intro w hSw; (try dsimp only at hSw); go_simp; (try with_reducible rfl))⟩) (by assumption) ?_; (try simp only [Act.put, List.setIfInBounds_toArray, List.set_cons_zero, List.set_cons_succ])
     refine wpAnyT_one (i := 15) (by kernel_rfl) rfl (fun K hK => ?_)
     go_simp
     have e0 : (w.drew.setCell ⟨g, 1, none⟩ (.slice r.a r.xs.length r.c)).cell? ⟨g, 0, none⟩ = some (.slice (some ⟨b, off, none⟩) l.rows.length c) := HC0.out
     have e1 : (w.drew.setCell ⟨g, 1, none⟩ (.slice r.a r.xs.length r.c)).cell? ⟨b, off, none⟩ = some (.slice r.a r.xs.length r.c) := HC1.out
     refine hK.out _ _ (fun _ => ⟨e0, e1⟩) (fun hH => ?_); clear hHeld hK K; have hHeld := hH (by decide); clear hH
     refine wpAnyT_one (i := 16) (by kernel_rfl) rfl (fun K hK => ?_)
     go_simp
     refine hK.out _ _ (fun _ => ⟨e0, e1⟩) (fun hH => ?_); clear hHeld hK K; have hHeld := hH (by decide); clear hH
     refine wpAnyT_one (i := 17) (by kernel_rfl) rfl (fun K hK => ?_)
     go_simp
     refine hK.out _ _ (fun _ => ⟨e0, e1⟩) (fun hH => ?_); clear hHeld hK K; have hHeld := hH (by decide); clear hH
     refine wpAnyT_one (i := 18) (by kernel_rfl) rfl (fun K hK => ?_)
     go_simp
     refine hK.out _ _ (fun e => absurd rfl e) (fun hH => ?_); refine wpAnyT_done (by kernel_rfl) ?_ _; clear hHeld hK K hH
     go_wp2_with fail
     go_ret
     exact ⟨rfl, H2.out.on ((Below.refl _ _).drew), HT.out.on ((Below.refl _ _).drew)⟩
theorem first_any (h : Rdr w g l x tv fv) (hf : FullL l) {s : ByteArray} (hs : s = ((l.rows.headD default).xs.headD ⟨#[]⟩)) : Calls Tryz.prog 56 #[.pointer (some ⟨g, 0, none⟩)] w fun e w' => e = .returned (.string s) ∧ w' = w := by
 have hl := h.lines.hdr.cle
 by_cases hn : l.rows.length = 0
 · have he : l.rows = [] := List.eq_nil_of_length_eq_zero hn
   rw [he] at hs
   have hs : s = ⟨#[]⟩ := hs
   subst hs
   have c0 := h.blk.cells 0
   rw [hn] at c0
   go_enter Tryz.func56, Tryz.ntmps56
   go_wp2_with fail
   go_ret
   exact ⟨rfl, rfl⟩
 · obtain ⟨b, off, r, ha, hb, hc, hr, hrow, hrest⟩ := h.lines.first (by omega)
   rw [hrow] at hs
   have hr0 : 0 < r.xs.length := (hf r (by rw [hrow]; exact List.mem_cons_self ..)).1
   obtain ⟨b2, off2, s2, ha2, hb2, hc2, hrow2, hrest2⟩ := hr.first hr0
   rw [List.headD_cons, hrow2] at hs
   have hs2 : s = s2 := hs
   clear hs
   subst hs2
   have c0 := h.blk.cells 0
   rw [ha] at c0
   rw [ha2] at hc
   have q0 : ¬ (l.rows.length : Int) = 0 := by omega
   have q1 : (0 : Int) < l.rows.length := by omega
   have q2 : 0 < l.rows.length := by omega
   have q3 : (0 : Int) < r.xs.length := by omega
   clear hrow2 hrest hrest2 hrow hf hr
   go_enter Tryz.func56, Tryz.ntmps56
   go_wp2_with fail
   go_ret
   exact ⟨rfl, rfl⟩
theorem word_no (h : Rdr w g l x tv fv) (hn : x.xs = []) : Calls Tryz.prog 58 #[.pointer (some ⟨g, 0, none⟩)] w fun e w' => e = giveUp ∧ w' = w := by
 have c1 : w.cell? ⟨g, 1, none⟩ = some (.slice x.a 0 x.c) := (h.blk.cells 1).trans (by rw [hn]; rfl)
 have hno := need_no
 clear h hn
 go_enter Tryz.func58, Tryz.ntmps58
 go_wp2_with (go_at_call 60; refine (hno _).mono ?_; rintro e w1 ⟨rfl, rfl⟩)
 exact ⟨rfl, rfl, rfl⟩
theorem word_yes (h : Rdr w g l x tv fv) {s : ByteArray} {t : List ByteArray} (hn : x.xs = s :: t) : Calls Tryz.prog 58 #[.pointer (some ⟨g, 0, none⟩)] w fun e w' => e = .returned (.string s) ∧ Rdr w' g l x.rest tv fv ∧ Tn g w w' := by
 have h0 : 0 < x.xs.length := by rw [hn]; exact Nat.succ_pos _
 have hl := h.words.at_.hdr.cle
 obtain ⟨b, off, s2, ha, hb, hc, hrow, hrest⟩ := h.words.first h0
 rw [hn] at hrow
 injection hrow with e1 _
 subst e1
 have hcap : x.xs.length ≤ x.c := h.words.at_.hdr.fit
 have h2 := Rdr.took h h0
 have ht : Tn g w (w.setCell ⟨g, 1, none⟩ (.slice x.rest.a x.rest.xs.length x.rest.c)) := Tn.set w 1 _
 have hlen : (x.rest.xs.length : Nat) = x.xs.length - 1 := by show (x.xs.drop 1).length = _; rw [List.length_drop]
 have z1 := h.blk.free 1
 obtain ⟨c, hcx⟩ : ∃ c, x.c = c := ⟨_, rfl⟩
 have c1 : w.cell? ⟨g, 1, none⟩ = some (.slice (some ⟨b, off, none⟩) x.xs.length c) := (h.blk.cells 1).trans (by rw [ha, hcx]; rfl)
 clear hcap
 obtain ⟨A1, hA1⟩ : ∃ A1, A1 = (if c = 1 then some (⟨b, off, none⟩ : Addr) else some ⟨b, off + 1, none⟩) := ⟨_, rfl⟩
 rw [hcx, ← hA1] at hrest
 rw [show (Value.slice x.rest.a x.rest.xs.length x.rest.c) = Value.slice A1 (x.xs.length - 1) (c - 1) by rw [hrest, hlen]] at h2 ht
 have q1 : (0 : Int) < x.xs.length := by omega
 have q2 : (1 : Int) ≤ x.xs.length := by omega
 have q3 : 0 < x.xs.length := by omega
 have q4 : 1 ≤ x.xs.length := by omega
 have H2 := Lib.hid h2
 have HT := Lib.hid ht
 have hyes := need_yes
 clear h2 ht hrest hlen hn h hcx
 by_cases hcc : c = 1
 · rw [if_pos hcc] at hA1
   subst hA1
   subst hcc
   go_enter Tryz.func58, Tryz.ntmps58
   go_wp2_with (go_at_call 60; refine (hyes _).mono ?_; rintro e w1 ⟨rfl, rfl⟩)
   go_ret
   exact ⟨rfl, H2.out, HT.out⟩
 · rw [if_neg hcc] at hA1
   subst hA1
   go_enter Tryz.func58, Tryz.ntmps58
   go_wp2_with (go_at_call 60; refine (hyes _).mono ?_; rintro e w1 ⟨rfl, rfl⟩)
   go_ret
   exact ⟨rfl, H2.out, HT.out⟩
def RdOut {α : Type} (w : World) (g : Nat) (l : LsR) (tv fv : Value) (Q : α → Value → World → Prop) (o : Option (α × List Bs)) (e : Ending) (w' : World) : Prop :=
 Tn g w w' ∧ match o with
 | none => e = giveUp
 | some (a, W) => ∃ v x', e = .returned v ∧ Q a v w' ∧ x'.data = W ∧ Rdr w' g l x' tv fv
def isInt (a : Int) (v : Value) (_ : World) : Prop := v = .int .i64 a
def markQ (c : UInt8) : List Bs → Option (Int × List Bs)
 | [] => none
 | w :: t => (markP w c).map fun n => (n, t)
def smallQ : List Bs → Option (Int × List Bs)
 | [] => none
 | w :: t => (smallP w).map fun n => (n, t)
theorem sm_told (l : Bs) : smV ((numP l).getD 0) (errN (numP l)) 999 = (smallP l).getD 0 ∧ smE ((numP l).getD 0) (errN (numP l)) 999 = errN (smallP l) := by
 have hq : ¬ ((999 : Int) < 0 ∨ (1000000 : Int) < 999) := by omega
 unfold smallP
 cases h : numP l with
 | none => exact sm_bad hq (.inl (show (10 : Int) ≠ 0 by decide))
 | some n =>
   dsimp only
   by_cases h2 : 0 ≤ n ∧ n ≤ 999
   · rw [if_pos h2]
     exact sm_well hq (fun h => by rcases h with h | h | h; exact h rfl; exact absurd h2.1 (by have : n < 0 := h; omega); exact absurd h2.2 (by have : 999 < n := h; omega))
   · rw [if_neg h2]
     refine sm_bad hq (.inr ?_)
     show n < 0 ∨ 999 < n
     omega
theorem mark_told (l : Bs) (c : UInt8) : markOf l c ((numP (l.drop 1)).getD 0) (errN (numP (l.drop 1))) = ((markP l c).getD 0, errN (markP l c)) := by
 unfold markOf
 cases l with
 | nil => rfl
 | cons d r =>
   have e2 : markP (d :: r) c = if d = c then smallP r else none := rfl
   rw [e2]
   show (if some d = some c then (smV ((numP r).getD 0) (errN (numP r)) 999, smE ((numP r).getD 0) (errN (numP r)) 999) else (0, 10)) = _
   obtain ⟨h1, h2⟩ := sm_told r
   by_cases h : d = c
   · rw [if_pos (congrArg some h), if_pos h, h1, h2]
   · rw [if_neg (fun e => h (Option.some.inj e)), if_neg h]
     rfl
end
section
variable {g : Nat} {w : World} {l : LsR} {x : LnR} {tv fv : Value}
theorem mark_any (h : Rdr w g l x tv fv) (c : UInt8) : Calls Tryz.prog 100 #[.pointer (some ⟨g, 0, none⟩), .int .u8 (c.toNat : Int)] w (RdOut w g l tv fv isInt (markQ c x.data)) := by
 have HX := Lib.hid h
 cases hx : x.xs with
 | nil =>
   rw [show x.data = [] by show x.xs.map toL = []; rw [hx]; rfl]
   have HN := Lib.hid hx
   clear h hx
   go_enter Tryz.func100, Tryz.ntmps100
   go_wp2_with (go_at_call 58; refine (word_no HX.out HN.out).mono ?_; rintro e w1 ⟨rfl, rfl⟩)
   exact ⟨rfl, Tn.refl _ _, rfl⟩
 | cons s t =>
   rw [show x.data = toL s :: t.map toL by show x.xs.map toL = _; rw [hx]; rfl]
   have HN := Lib.hid hx
   have HD : Hid (x.rest.data = t.map toL) := Lib.hid (by show (x.xs.drop 1).map toL = _; rw [hx]; rfl)
   have HTD := Lib.hid (numP_told ((toL s).drop 1))
   have HMK := Lib.hid (mark_told (toL s) c)
   show Calls _ _ _ _ (RdOut w g l tv fv isInt ((markP (toL s) c).map fun n => (n, t.map toL)))
   clear h hx
   have hyes := need_yes
   have hno := need_no
   cases hm : markP (toL s) c with
   | none =>
     rw [hm] at HMK
     clear hm
     go_enter Tryz.func100, Tryz.ntmps100
     go_wp2_with (first
      | (go_at_call 58; refine (word_yes HX.out HN.out).mono ?_; rintro e w1 ⟨rfl, hr, ht⟩; have HR := Lib.hid hr; have HT := Lib.hid ht; clear hr ht)
      | (go_at_call 135; refine (pmark_any s c _ _ HTD.out _).mono ?_; rintro e w2 ⟨rfl, hb⟩; have HB := Lib.hid hb; clear hb; rw [show s.data.toList = toL s from rfl, HMK.out]; dsimp only [errN])
      | (go_at_call 60; refine (hno _).mono ?_; rintro e w3 ⟨rfl, rfl⟩))
     exact ⟨rfl, HT.out.on HB.out, rfl⟩
   | some n =>
     rw [hm] at HMK
     clear hm
     go_enter Tryz.func100, Tryz.ntmps100
     go_wp2_with (first
      | (go_at_call 58; refine (word_yes HX.out HN.out).mono ?_; rintro e w1 ⟨rfl, hr, ht⟩; have HR := Lib.hid hr; have HT := Lib.hid ht; clear hr ht)
      | (go_at_call 135; refine (pmark_any s c _ _ HTD.out _).mono ?_; rintro e w2 ⟨rfl, hb⟩; have HB := Lib.hid hb; clear hb; rw [show s.data.toList = toL s from rfl, HMK.out]; dsimp only [errN, Option.getD])
      | (go_at_call 60; refine (hyes _).mono ?_; rintro e w3 ⟨rfl, rfl⟩))
     go_ret
     exact ⟨HT.out.on HB.out, _, x.rest, rfl, rfl, HD.out, HR.out.on HB.out⟩
theorem small_any (h : Rdr w g l x tv fv) : Calls Tryz.prog 102 #[.pointer (some ⟨g, 0, none⟩)] w (RdOut w g l tv fv isInt (smallQ x.data)) := by
 have HX := Lib.hid h
 cases hx : x.xs with
 | nil =>
   rw [show x.data = [] by show x.xs.map toL = []; rw [hx]; rfl]
   have HN := Lib.hid hx
   clear h hx
   go_enter Tryz.func102, Tryz.ntmps102
   go_wp2_with (go_at_call 58; refine (word_no HX.out HN.out).mono ?_; rintro e w1 ⟨rfl, rfl⟩)
   exact ⟨rfl, Tn.refl _ _, rfl⟩
 | cons s t =>
   rw [show x.data = toL s :: t.map toL by show x.xs.map toL = _; rw [hx]; rfl]
   have HN := Lib.hid hx
   have HD : Hid (x.rest.data = t.map toL) := Lib.hid (by show (x.xs.drop 1).map toL = _; rw [hx]; rfl)
   have HTD := Lib.hid (numP_told (toL s))
   obtain ⟨hm1, hm2⟩ := sm_told (toL s)
   have HM1 := Lib.hid hm1
   have HM2 := Lib.hid hm2
   show Calls _ _ _ _ (RdOut w g l tv fv isInt ((smallP (toL s)).map fun n => (n, t.map toL)))
   clear h hx hm1 hm2
   have hyes := need_yes
   have hno := need_no
   cases hm : smallP (toL s) with
   | none =>
     rw [hm] at HM1 HM2
     clear hm
     go_enter Tryz.func102, Tryz.ntmps102
     go_wp2_with (first
      | (go_at_call 58; refine (word_yes HX.out HN.out).mono ?_; rintro e w1 ⟨rfl, hr, ht⟩; have HR := Lib.hid hr; have HT := Lib.hid ht; clear hr ht)
      | (go_at_call 136; refine (small_is s _ _ 999 HTD.out _).mono ?_; rintro e w2 ⟨rfl, hb⟩; have HB := Lib.hid hb; clear hb; rw [HM1.out, HM2.out]; dsimp only [errN])
      | (go_at_call 60; refine (hno _).mono ?_; rintro e w3 ⟨rfl, rfl⟩))
     exact ⟨rfl, HT.out.on HB.out, rfl⟩
   | some n =>
     rw [hm] at HM1 HM2
     clear hm
     go_enter Tryz.func102, Tryz.ntmps102
     go_wp2_with (first
      | (go_at_call 58; refine (word_yes HX.out HN.out).mono ?_; rintro e w1 ⟨rfl, hr, ht⟩; have HR := Lib.hid hr; have HT := Lib.hid ht; clear hr ht)
      | (go_at_call 136; refine (small_is s _ _ 999 HTD.out _).mono ?_; rintro e w2 ⟨rfl, hb⟩; have HB := Lib.hid hb; clear hb; rw [HM1.out, HM2.out]; dsimp only [errN, Option.getD])
      | (go_at_call 60; refine (hyes _).mono ?_; rintro e w3 ⟨rfl, rfl⟩))
     go_ret
     exact ⟨HT.out.on HB.out, _, x.rest, rfl, rfl, HD.out, HR.out.on HB.out⟩
end
def lenOf : Value → Nat
 | .slice _ n _ => n
 | _ => 0
def slotOf (a : Array Value) : Nat → Value := fun i => a.getD i undef
theorem Tn.grown {g : Nat} {w w1 w2 : World} {row : Option Nat} (h : Tn g w w1) (hg : w1.grownBy w2 row) (hr : ∀ k, row = some k → w.heap.size ≤ k) : Tn g w w2 :=
 ⟨hg.os.trans h.os, hg.tape.trans h.tape, hg.output.trans h.output, Nat.le_trans h.size hg.size, fun k hk hn => (hg.block k (Nat.lt_of_lt_of_le hk h.size) (fun e => by have := hr k e.symm; omega)).trans (h.block k hk hn)⟩
theorem Tn.alloc {g : Nat} {w w1 : World} (h : Tn g w w1) (o : Obj) : Tn g w (w1.alloc o) := h.on ((Below.refl _ _).alloc (Nat.le_refl _) _)
def MarksTo (c : UInt8) (W : List Bs) (xs : List Int) (W' : List Bs) : Prop := marksP c W = (marksP c W').map (xs ++ ·)
theorem MarksTo.start (c : UInt8) (W : List Bs) : MarksTo c W [] W := by
 unfold MarksTo
 cases marksP c W with
 | none => rfl
 | some l => rfl
theorem MarksTo.step {c : UInt8} {W W' : List Bs} {xs : List Int} {b : Bs} {n : Int} (h : MarksTo c W xs (b :: W')) (hm : markP b c = some n) : MarksTo c W (xs ++ [n]) W' := by
 unfold MarksTo at h ⊢
 rw [h]
 show ((match markP b c with
  | some n => (match marksP c W' with
    | some l => some (n :: l)
    | none => none)
  | none => none).map _) = _
 rw [hm]
 cases marksP c W' with
 | none => rfl
 | some l =>
   show some (xs ++ n :: l) = some (xs ++ [n] ++ l)
   rw [List.append_assoc]
   rfl
theorem MarksTo.done {c : UInt8} {W : List Bs} {xs : List Int} (h : MarksTo c W xs []) : marksP c W = some xs := by
 unfold MarksTo at h
 rw [h]
 show some (xs ++ []) = some xs
 rw [List.append_nil]
theorem MarksTo.stop {c : UInt8} {W W' : List Bs} {xs : List Int} {b : Bs} (h : MarksTo c W xs (b :: W')) (hm : markP b c = none) : marksP c W = none := by
 unfold MarksTo at h
 rw [h]
 show ((match markP b c with
  | some n => (match marksP c W' with
    | some l => some (n :: l)
    | none => none)
  | none => none).map _) = _
 rw [hm]
 rfl
def isInts (lo : Nat) (a : List Int) (v : Value) (w : World) : Prop := OwnInts w lo v a
def marksQ (c : UInt8) (W : List Bs) : Option (List Int × List Bs) := (marksP c W).map fun l => (l, [])
theorem LnR.data_len (x : LnR) : x.data.length = x.xs.length := List.length_map ..
section
variable {g : Nat} {w : World} {l : LsR} {x : LnR} {tv fv : Value}
theorem marks_any (h : Rdr w g l x tv fv) (c : UInt8) (hx : x.xs.length ≤ 20000) : Calls Tryz.prog 101 #[.pointer (some ⟨g, 0, none⟩), .int .u8 (c.toNat : Int)] w (RdOut w g l tv fv (isInts w.heap.size) (marksQ c x.data)) := by
 have HX := Lib.hid h
 have hMK := @mark_any
 have hxl := x.data_len
 clear h
 go_enter Tryz.func101, Tryz.ntmps101
 go_wp2_with fail
 go_loopw [4] (fun v wr => ∃ (xs : List Int) (x' : LnR), OwnInts wr w.heap.size v xs ∧ Rdr wr g l x' tv fv ∧ Tn g w wr ∧ MarksTo c x.data xs x'.data ∧ xs.length + x'.xs.length = x.xs.length) (fun v _ => x.xs.length - lenOf v)
 case atStart => exact ⟨[], x, OwnInts.nil _ _, HX.out, Tn.refl _ _, MarksTo.start _ _, by simp⟩
 case round =>
  obtain ⟨xs, x', hown, hrd, htn, hmk, hlen⟩ := hrel
  have HO := Lib.hid hown
  have HR := Lib.hid hrd
  have HT := Lib.hid htn
  have HM := Lib.hid hmk
  have HXL := Lib.hid x'.data_len
  obtain ⟨A, ca, rfl, _⟩ := hown.form
  have hl' := hrd.words.at_.hdr.cle
  cases hx' : x'.data with
  | nil =>
    have h0 : x'.xs.length = 0 := by rw [← HXL.out, hx']; rfl
    have c1 : wr.cell? ⟨g, 1, none⟩ = some (.slice x'.a 0 x'.c) := (hrd.blk.cells 1).trans (by rw [h0]; rfl)
    have HD := Lib.hid hx'
    clear hown hrd htn hmk h0 hlen hl' hx'
    go_wp2_with fail
    go_ret
    have hm := HM.out
    rw [HD.out] at hm
    refine ⟨HT.out, ?_⟩
    unfold marksQ
    rw [hm.done]
    exact ⟨_, x', rfl, HO.out, HD.out, HR.out⟩
  | cons b W =>
    have h0 : 0 < x'.xs.length := by rw [← HXL.out, hx']; exact Nat.succ_pos _
    have q1 : (0 : Int) < x'.xs.length := by omega
    have c1 : wr.cell? ⟨g, 1, none⟩ = some (.slice x'.a x'.xs.length x'.c) := hrd.blk.cells 1
    have HD := Lib.hid hx'
    have HL := Lib.hid hlen
    have HMK := Lib.hid (hMK HR.out c)
    rw [hx'] at HMK hmk
    clear hown hrd htn hlen hl' hx' hMK hxl
    cases hm : markP b c with
    | none =>
      have HN := Lib.hid (hmk.stop hm)
      have HQ : Hid (markQ c (b :: W) = none) := Lib.hid (by show (markP b c).map _ = _; rw [hm]; rfl)
      clear hm hmk
      go_wp2_with (go_at_call 100; refine HMK.out.mono ?_; rintro e w2 ho; rw [HQ.out] at ho; obtain ⟨ht2, rfl⟩ := ho; have HT2 := Lib.hid ht2; clear ht2)
      refine ⟨rfl, HT.out.trans HT2.out, ?_⟩
      unfold marksQ
      rw [HN.out]
      rfl
    | some n =>
      have HN := Lib.hid (hmk.step hm)
      have HQ : Hid (markQ c (b :: W) = some (n, W)) := Lib.hid (by show (markP b c).map _ = _; rw [hm]; rfl)
      clear hm hmk
      go_wp2_with (first
       | (go_at_call 100; refine HMK.out.mono ?_; rintro e w2 ho; rw [HQ.out] at ho; obtain ⟨ht2, v2, x2, rfl, hv2, hx2, hr2⟩ := ho; have hv2 : v2 = .int .i64 n := hv2; subst hv2; have HT2 := Lib.hid ht2; have HX2 := Lib.hid hx2; have HR2 := Lib.hid hr2; have HO2 : Hid (OwnInts w2 w.heap.size (.slice A xs.length ca) xs) := Lib.hid (OwnInts.spare HO.out (ht2.spare HR.out.blk) (by decide)); have hs2 := ht2.size; clear ht2 hx2 hr2)
       | (at_builtin; refine wpList_app1 rfl (.tmp 11) (.tmp 15) rfl w.heap.size _ _ rfl n HO2.out rfl (by have := HL.out; omega) (Nat.le_trans HT.out.size hs2) ?_; intro v' w4 hown4 hg4; refine pause ?_))
      have hs0 : w.heap.size ≤ w2.heap.size := Nat.le_trans HT.out.size hs2
      have HO3 : Hid (OwnInts (w2.alloc (.cells #[.int .i64 n] 3)) w.heap.size (.slice A xs.length ca) xs) := Lib.hid (HO2.out.keep ((Below.refl _ _).alloc (Nat.le_refl _) _))
      have HS4 := Lib.hid (Spare.grown HO3.out hg4)
      have HR4 := Lib.hid (Rdr.spare (HR2.out.on ((Below.refl _ _).alloc (Nat.le_refl _) _)) HS4.out (by decide) (by decide) (by decide))
      have HT4 := Lib.hid (((HT.out.trans HT2.out).alloc (.cells #[.int .i64 n] 3)).grown hg4 HO2.out.base)
      have HO4 := Lib.hid hown4
      obtain ⟨A4, c4, hv4, _⟩ := hown4.form
      have hlv : lenOf v' = xs.length + 1 := by rw [hv4]; show (xs ++ [n]).length = _; rw [List.length_append]; rfl
      have hlu : lenOf (.slice A xs.length ca) = xs.length := rfl
      have hx2l : x2.xs.length + 1 = x'.xs.length := by rw [← x2.data_len, ← HXL.out, HX2.out, HD.out]; rfl
      clear hown4 hg4 hv4
      refine resume ?_
      go_wp2_with fail
      go_roundw
      case rel => exact ⟨xs ++ [n], x2, HO4.out, HR4.out, HT4.out, by rw [HX2.out]; exact HN.out, by rw [List.length_append]; have := HL.out; simp only [List.length_cons, List.length_nil]; omega⟩
      case measure => rw [hlv, hlu]; have := HL.out; omega
end
def readQ : List Bs → Option (Int × List Bs)
 | [] => none
 | w :: t => (numP w).map fun n => (n, t)
def numberQ (op : Nat) (W : List Bs) : Option (Int × List Bs) := if op = 1 then readQ W else if op = 3 ∨ op = 18 then markQ 102 W else if op = 14 then smallQ W else some (0, W)
section
variable {g : Nat} {w : World} {l : LsR} {x : LnR} {tv fv : Value}
theorem number_any (h : Rdr w g l x tv fv) (op : Nat) : Calls Tryz.prog 163 #[.pointer (some ⟨g, 0, none⟩), .int .u8 (op : Int)] w (RdOut w g l tv fv isInt (numberQ op x.data)) := by
 have HX := Lib.hid h
 unfold numberQ
 by_cases h1 : op = 1
 · subst h1
   rw [if_pos rfl]
   cases hx : x.xs with
   | nil =>
     rw [show x.data = [] by show x.xs.map toL = []; rw [hx]; rfl]
     have HN := Lib.hid hx
     clear h hx
     go_enter Tryz.func163, Tryz.ntmps163
     go_wp2_with (go_at_call 58; refine (word_no HX.out HN.out).mono ?_; rintro e w1 ⟨rfl, rfl⟩)
     exact ⟨rfl, Tn.refl _ _, rfl⟩
   | cons s t =>
     rw [show x.data = toL s :: t.map toL by show x.xs.map toL = _; rw [hx]; rfl]
     have HN := Lib.hid hx
     have HD : Hid (x.rest.data = t.map toL) := Lib.hid (by show (x.xs.drop 1).map toL = _; rw [hx]; rfl)
     have HTD := Lib.hid (numP_told (toL s))
     show Calls _ _ _ _ (RdOut w g l tv fv isInt ((numP (toL s)).map fun n => (n, t.map toL)))
     clear h hx
     have hyes := need_yes
     have hno := need_no
     cases hm : numP (toL s) with
     | none =>
       rw [hm] at HTD
       clear hm
       go_enter Tryz.func163, Tryz.ntmps163
       go_wp2_with (first
        | (go_at_call 58; refine (word_yes HX.out HN.out).mono ?_; rintro e w1 ⟨rfl, hr, ht⟩; have HR := Lib.hid hr; have HT := Lib.hid ht; clear hr ht)
        | (go_at_call 160; refine (read_is s _ _ HTD.out _).mono ?_; rintro e w2 ⟨rfl, hb⟩; have HB := Lib.hid hb; clear hb; dsimp only [errN])
        | (go_at_call 60; refine (hno _).mono ?_; rintro e w3 ⟨rfl, rfl⟩))
       exact ⟨rfl, HT.out.on HB.out, rfl⟩
     | some n =>
       rw [hm] at HTD
       clear hm
       go_enter Tryz.func163, Tryz.ntmps163
       go_wp2_with (first
        | (go_at_call 58; refine (word_yes HX.out HN.out).mono ?_; rintro e w1 ⟨rfl, hr, ht⟩; have HR := Lib.hid hr; have HT := Lib.hid ht; clear hr ht)
        | (go_at_call 160; refine (read_is s _ _ HTD.out _).mono ?_; rintro e w2 ⟨rfl, hb⟩; have HB := Lib.hid hb; clear hb; dsimp only [errN, Option.getD])
        | (go_at_call 60; refine (hyes _).mono ?_; rintro e w3 ⟨rfl, rfl⟩))
       go_ret
       exact ⟨HT.out.on HB.out, _, x.rest, rfl, rfl, HD.out, HR.out.on HB.out⟩
 · rw [if_neg h1]
   have q1 : ¬ (op : Int) = 1 := by omega
   by_cases h2 : op = 3 ∨ op = 18
   · rw [if_pos h2]
     have HM := Lib.hid (mark_any h 102)
     have hq : (102 : UInt8).toNat = (102 : Int) := rfl
     rw [show ((102 : UInt8).toNat : Int) = 102 from rfl] at HM
     clear h
     rcases h2 with rfl | rfl
     · cases hm : markQ 102 x.data with
       | none =>
         rw [hm] at HM
         clear hm
         go_enter Tryz.func163, Tryz.ntmps163
         go_wp2_with (go_at_call 100; refine HM.out.mono ?_; rintro e w2 ⟨ht, rfl⟩)
         exact ⟨rfl, ht, rfl⟩
       | some nW =>
         obtain ⟨n, W⟩ := nW
         rw [hm] at HM
         clear hm
         go_enter Tryz.func163, Tryz.ntmps163
         go_wp2_with (go_at_call 100; refine HM.out.mono ?_; rintro e w2 ⟨ht, v, x', rfl, hv, hx2, hr⟩; have hv : v = .int .i64 n := hv; subst hv; have HT := Lib.hid ht; have HX2 := Lib.hid hx2; have HR := Lib.hid hr; clear ht hx2 hr)
         go_ret
         exact ⟨HT.out, _, x', rfl, rfl, HX2.out, HR.out⟩
     · cases hm : markQ 102 x.data with
       | none =>
         rw [hm] at HM
         clear hm
         go_enter Tryz.func163, Tryz.ntmps163
         go_wp2_with (go_at_call 100; refine HM.out.mono ?_; rintro e w2 ⟨ht, rfl⟩)
         exact ⟨rfl, ht, rfl⟩
       | some nW =>
         obtain ⟨n, W⟩ := nW
         rw [hm] at HM
         clear hm
         go_enter Tryz.func163, Tryz.ntmps163
         go_wp2_with (go_at_call 100; refine HM.out.mono ?_; rintro e w2 ⟨ht, v, x', rfl, hv, hx2, hr⟩; have hv : v = .int .i64 n := hv; subst hv; have HT := Lib.hid ht; have HX2 := Lib.hid hx2; have HR := Lib.hid hr; clear ht hx2 hr)
         go_ret
         exact ⟨HT.out, _, x', rfl, rfl, HX2.out, HR.out⟩
   · rw [if_neg h2]
     have q2 : ¬ (op : Int) = 3 := by omega
     have q3 : ¬ (op : Int) = 18 := by omega
     by_cases h3 : op = 14
     · rw [if_pos h3]
       subst h3
       have HM := Lib.hid (small_any h)
       clear h h1 h2 q1 q2 q3
       cases hm : smallQ x.data with
       | none =>
         rw [hm] at HM
         clear hm
         go_enter Tryz.func163, Tryz.ntmps163
         go_wp2_with (go_at_call 102; refine HM.out.mono ?_; rintro e w2 ⟨ht, rfl⟩)
         exact ⟨rfl, ht, rfl⟩
       | some nW =>
         obtain ⟨n, W⟩ := nW
         rw [hm] at HM
         clear hm
         go_enter Tryz.func163, Tryz.ntmps163
         go_wp2_with (go_at_call 102; refine HM.out.mono ?_; rintro e w2 ⟨ht, v, x', rfl, hv, hx2, hr⟩; have hv : v = .int .i64 n := hv; subst hv; have HT := Lib.hid ht; have HX2 := Lib.hid hx2; have HR := Lib.hid hr; clear ht hx2 hr)
         go_ret
         exact ⟨HT.out, _, x', rfl, rfl, HX2.out, HR.out⟩
     · rw [if_neg h3]
       have q4 : ¬ (op : Int) = 14 := by omega
       clear h h1 h2 h3
       go_enter Tryz.func163, Tryz.ntmps163
       go_wp2_with fail
       go_ret
       exact ⟨Tn.refl _ _, _, x, rfl, rfl, rfl, HX.out⟩
end
def kindQ : List Bs → Option (Ty × List Bs)
 | [] => none
 | k :: r =>
   if k = bInt then some (⟨1, 0, 0, []⟩, r)
   else if k = bPtr then (markQ 116 r).map fun q => (⟨2, q.1, 0, []⟩, q.2)
   else if k = bFn then (match markQ 116 r with
    | none => none
    | some q => (marksQ 116 q.2).map fun q' => (⟨3, q.1, 0, q'.1⟩, q'.2))
   else if k = bStruct then (marksQ 116 r).map fun q => (⟨4, 0, 0, q.1⟩, q.2)
   else if k = bArray then (match markQ 116 r with
    | none => none
    | some q => (smallQ q.2).map fun q' => (⟨5, q.1, q'.1, []⟩, q'.2))
   else none
theorem kindQ_cons (k : Bs) (r : List Bs) : kindQ (k :: r) = (if k = bInt then some (⟨1, 0, 0, []⟩, r)
 else if k = bPtr then (markQ 116 r).map fun q => (⟨2, q.1, 0, []⟩, q.2)
 else if k = bFn then (match markQ 116 r with
  | none => none
  | some q => (marksQ 116 q.2).map fun q' => (⟨3, q.1, 0, q'.1⟩, q'.2))
 else if k = bStruct then (marksQ 116 r).map fun q => (⟨4, 0, 0, q.1⟩, q.2)
 else if k = bArray then (match markQ 116 r with
  | none => none
  | some q => (smallQ q.2).map fun q' => (⟨5, q.1, q'.1, []⟩, q'.2))
 else none) := rfl
def isTy (lo : Nat) (t : Ty) (v : Value) (w : World) : Prop := ∃ r : TyR, v = r.val ∧ r.data = t ∧ OwnInts w lo (.slice r.pa r.parts.length r.pc) r.parts ∧ r.kind ≤ 255
theorem str_yes {s : ByteArray} {b : Bs} (h : toL s = b) : (s.toList == b) = true := by
 rw [ByteArray.toList_eq]
 exact beq_iff_eq.2 h
theorem str_no {s : ByteArray} {b : Bs} (h : ¬ toL s = b) : (s.toList == b) = false := by
 rw [ByteArray.toList_eq]
 exact beq_eq_false_iff_ne.2 h
structure Bx (w0 w : World) (g : Nat) (l : LsR) (x : LnR) (tv fv : Value) (B : Nat) (t : TypeId) (cs : Array Value) : Prop where
 blk : Blk w B t cs
 rd : Rdr w g l x tv fv
 tn : Tn g w0 w
 lo : w0.heap.size ≤ B
section
variable {g B : Nat} {w0 w w' : World} {l : LsR} {x x' : LnR} {tv fv : Value} {t : TypeId} {cs : Array Value}
theorem Tn.far (h : Tn g w0 w) (hB : w0.heap.size ≤ B) (j : Nat) (u : Value) : Tn g w0 (w.setCell ⟨B, j, none⟩ u) :=
 ⟨h.os, h.tape, h.output, by rw [size_set]; exact h.size, fun k hk hn => (Below.heap_setCell w _ u k (by show k ≠ B; omega)).trans (h.block k hk hn)⟩
theorem Bx.put (h : Bx w0 w g l x tv fv B t cs) (h1 : 9 ≠ t) (h2 : 51 ≠ t) (h3 : 55 ≠ t) (j : Nat) (u : Value) : Bx w0 (w.setCell ⟨B, j, none⟩ u) g l x tv fv B t (cs.setIfInBounds j u) :=
 ⟨h.blk.put j u, h.rd.spare (Spare.set h.blk u) h1 h2 h3, h.tn.far h.lo j u, h.lo⟩
theorem Bx.four {x0 x1 x2 x3 : Value} (h : Bx w0 w g l x tv fv B t #[x0, x1, x2, x3]) (h1 : 9 ≠ t) (h2 : 51 ≠ t) (h3 : 55 ≠ t) (a0 a1 a2 a3 : Value) :
 Bx w0 ((((w.setCell ⟨B, 0, none⟩ a0).setCell ⟨B, 1, none⟩ a1).setCell ⟨B, 2, none⟩ a2).setCell ⟨B, 3, none⟩ a3) g l x tv fv B t #[a0, a1, a2, a3] :=
 (((h.put h1 h2 h3 0 a0).put h1 h2 h3 1 a1).put h1 h2 h3 2 a2).put h1 h2 h3 3 a3
theorem Bx.call {x1 : LnR} {tv1 fv1 : Value} {l1 : LsR} (h : Bx w0 w g l x tv fv B t cs) (hr : Rdr w' g l1 x1 tv1 fv1) (ht : Tn g w w') (h3 : 55 ≠ t) : Bx w0 w' g l1 x1 tv1 fv1 B t cs :=
 ⟨ht.blk h.blk (fun e => by
   have h1 : w.heap[B]? = some (.cells cs t (0, 0)) := h.blk
   have h2 : w.heap[g]? = some (.cells _ 55 (0, 0)) := h.rd.blk
   rw [e, h2] at h1
   injection h1 with h1
   injection h1 with _ h1 _
   exact h3 h1), hr, h.tn.trans ht, h.lo⟩
theorem Bx.new (h : Rdr w g l x tv fv) (t : TypeId) (cs : Array Value) : Bx w (w.alloc (.cells cs t)) g l x tv fv w.heap.size t cs := ⟨Blk.new w t cs, h.on ((Below.refl _ _).alloc (Nat.le_refl _) _), Tn.of ((Below.refl _ _).alloc (Nat.le_refl _) _), Nat.le_refl _⟩
theorem OwnInts.four {lo : Nat} {v : Value} {xs : List Int} {x0 x1 x2 x3 : Value} (h : OwnInts w lo v xs) (hb : Blk w B t #[x0, x1, x2, x3]) (hne : 3 ≠ t) (a0 a1 a2 a3 : Value) :
 OwnInts ((((w.setCell ⟨B, 0, none⟩ a0).setCell ⟨B, 1, none⟩ a1).setCell ⟨B, 2, none⟩ a2).setCell ⟨B, 3, none⟩ a3) lo v xs :=
 (((h.spare (Spare.set hb a0) hne).spare (Spare.set (hb.put 0 a0) a1) hne).spare (Spare.set ((hb.put 0 a0).put 1 a1) a2) hne).spare (Spare.set (((hb.put 0 a0).put 1 a1).put 2 a2) a3) hne
end
section
variable {g : Nat} {w : World} {l : LsR} {x : LnR} {tv fv : Value}
theorem rkind_int (h : Rdr w g l x tv fv) (hx : x.xs.length ≤ 20000) {s : ByteArray} {t : List ByteArray} (hxs : x.xs = s :: t) (k0 : toL s = bInt) : Calls Tryz.prog 59 #[.pointer (some ⟨g, 0, none⟩)] w (RdOut w g l tv fv (isTy w.heap.size) (some (⟨1, 0, 0, []⟩, t.map toL))) := by
 have HB0 := Lib.hid (Bx.new h 78 #[.int .u8 0, .int .i64 0, .int .i64 0, .slice none 0 0])
 have HX := Lib.hid HB0.out.rd
 have HNX := Lib.hid hxs
 have HD : Hid (x.rest.data = t.map toL) := Lib.hid (by show (x.xs.drop 1).map toL = _; rw [hxs]; rfl)
 have HL : Hid (x.rest.xs.length ≤ 20000) := Lib.hid (by show (x.xs.drop 1).length ≤ _; rw [List.length_drop]; omega)
 have hgu := @mark_any
 clear h hxs hx
 have e0 : (s.toList == [105, 110, 116]) = true := str_yes k0
 clear k0 hgu
 go_enter Tryz.func59, Tryz.ntmps59
 go_wp2_with (go_at_call 58; refine (word_yes HX.out HNX.out).mono ?_; rintro e w1 ⟨rfl, hr, ht⟩; have HB1 := Lib.hid (Bx.call HB0.out hr ht (by decide)); have k0 := HB1.out.blk.cells 0; have k1 := HB1.out.blk.cells 1; have k2 := HB1.out.blk.cells 2; have k3 := HB1.out.blk.cells 3; have kz := HB1.out.blk.free; clear hr ht)
 have HB2 := Lib.hid (Bx.put HB1.out (by decide) (by decide) (by decide) 0 (.int .u8 1))
 have HE := Lib.hid (Bx.four HB2.out (by decide) (by decide) (by decide) (.int .u8 1) (.int .i64 0) (.int .i64 0) (.slice none 0 0))
 have q0 := HE.out.blk.cells 0
 have q1 := HE.out.blk.cells 1
 have q2 := HE.out.blk.cells 2
 have q3 := HE.out.blk.cells 3
 exact bodyPost_ret (v := (TyR.val ⟨1, 0, 0, none, 0, []⟩)) (by simp [results, Tryz.results59, go_sem, TyR.val, q0, q1, q2, q3]) rfl ⟨HE.out.tn, _, _, rfl, ⟨⟨1, 0, 0, none, 0, []⟩, rfl, rfl, OwnInts.nil _ _, Nat.le_of_ble_eq_true rfl⟩, HD.out, HE.out.rd⟩
theorem rkind_ptr0 (h : Rdr w g l x tv fv) (hx : x.xs.length ≤ 20000) {s : ByteArray} {t : List ByteArray} (hxs : x.xs = s :: t) (n0 : ¬ toL s = bInt) (k1 : toL s = bPtr) (hq : markQ 116 (t.map toL) = none) : Calls Tryz.prog 59 #[.pointer (some ⟨g, 0, none⟩)] w (RdOut w g l tv fv (isTy w.heap.size) (none)) := by
 have HB0 := Lib.hid (Bx.new h 78 #[.int .u8 0, .int .i64 0, .int .i64 0, .slice none 0 0])
 have HX := Lib.hid HB0.out.rd
 have HNX := Lib.hid hxs
 have HD : Hid (x.rest.data = t.map toL) := Lib.hid (by show (x.xs.drop 1).map toL = _; rw [hxs]; rfl)
 have HL : Hid (x.rest.xs.length ≤ 20000) := Lib.hid (by show (x.xs.drop 1).length ≤ _; rw [List.length_drop]; omega)
 have hgu := @mark_any
 clear h hxs hx
 have HQ := Lib.hid hq
 clear hq
 have e0 : (s.toList == [105, 110, 116]) = false := str_no n0
 have e1 : (s.toList == [112, 116, 114]) = true := str_yes k1
 clear n0 k1 hgu
 go_enter Tryz.func59, Tryz.ntmps59
 go_wp2_with (first
  | (go_at_call 58; refine (word_yes HX.out HNX.out).mono ?_; rintro e w1 ⟨rfl, hr, ht⟩; have HB1 := Lib.hid (Bx.call HB0.out hr ht (by decide)); have k0 := HB1.out.blk.cells 0; have k1 := HB1.out.blk.cells 1; have k2 := HB1.out.blk.cells 2; have k3 := HB1.out.blk.cells 3; have kz := HB1.out.blk.free; clear hr ht; have HM := Lib.hid (mark_any HB1.out.rd 116); rw [HD.out, HQ.out] at HM; rw [show ((116 : UInt8).toNat : Int) = 116 from rfl] at HM)
  | (go_at_call 100; refine HM.out.mono ?_; rintro e w2 ⟨ht, rfl⟩; have HT2 := Lib.hid ht; clear ht))
 exact ⟨rfl, HB1.out.tn.trans HT2.out, rfl⟩
theorem rkind_fn0 (h : Rdr w g l x tv fv) (hx : x.xs.length ≤ 20000) {s : ByteArray} {t : List ByteArray} (hxs : x.xs = s :: t) (n0 : ¬ toL s = bInt) (n1 : ¬ toL s = bPtr) (k2 : toL s = bFn) (hq : markQ 116 (t.map toL) = none) : Calls Tryz.prog 59 #[.pointer (some ⟨g, 0, none⟩)] w (RdOut w g l tv fv (isTy w.heap.size) (none)) := by
 have HB0 := Lib.hid (Bx.new h 78 #[.int .u8 0, .int .i64 0, .int .i64 0, .slice none 0 0])
 have HX := Lib.hid HB0.out.rd
 have HNX := Lib.hid hxs
 have HD : Hid (x.rest.data = t.map toL) := Lib.hid (by show (x.xs.drop 1).map toL = _; rw [hxs]; rfl)
 have HL : Hid (x.rest.xs.length ≤ 20000) := Lib.hid (by show (x.xs.drop 1).length ≤ _; rw [List.length_drop]; omega)
 have hgu := @mark_any
 clear h hxs hx
 have HQ := Lib.hid hq
 clear hq
 have e0 : (s.toList == [105, 110, 116]) = false := str_no n0
 have e1 : (s.toList == [112, 116, 114]) = false := str_no n1
 have e2 : (s.toList == [102, 110]) = true := str_yes k2
 clear n0 n1 k2 hgu
 go_enter Tryz.func59, Tryz.ntmps59
 go_wp2_with (first
  | (go_at_call 58; refine (word_yes HX.out HNX.out).mono ?_; rintro e w1 ⟨rfl, hr, ht⟩; have HB1 := Lib.hid (Bx.call HB0.out hr ht (by decide)); have k0 := HB1.out.blk.cells 0; have k1 := HB1.out.blk.cells 1; have k2 := HB1.out.blk.cells 2; have k3 := HB1.out.blk.cells 3; have kz := HB1.out.blk.free; clear hr ht; have HM := Lib.hid (mark_any HB1.out.rd 116); rw [HD.out, HQ.out] at HM; rw [show ((116 : UInt8).toNat : Int) = 116 from rfl] at HM)
  | (go_at_call 100; refine HM.out.mono ?_; rintro e w2 ⟨ht, rfl⟩; have HT2 := Lib.hid ht; clear ht))
 exact ⟨rfl, HB1.out.tn.trans HT2.out, rfl⟩
theorem rkind_arr0 (h : Rdr w g l x tv fv) (hx : x.xs.length ≤ 20000) {s : ByteArray} {t : List ByteArray} (hxs : x.xs = s :: t) (n0 : ¬ toL s = bInt) (n1 : ¬ toL s = bPtr) (n2 : ¬ toL s = bFn) (n3 : ¬ toL s = bStruct) (k4 : toL s = bArray) (hq : markQ 116 (t.map toL) = none) : Calls Tryz.prog 59 #[.pointer (some ⟨g, 0, none⟩)] w (RdOut w g l tv fv (isTy w.heap.size) (none)) := by
 have HB0 := Lib.hid (Bx.new h 78 #[.int .u8 0, .int .i64 0, .int .i64 0, .slice none 0 0])
 have HX := Lib.hid HB0.out.rd
 have HNX := Lib.hid hxs
 have HD : Hid (x.rest.data = t.map toL) := Lib.hid (by show (x.xs.drop 1).map toL = _; rw [hxs]; rfl)
 have HL : Hid (x.rest.xs.length ≤ 20000) := Lib.hid (by show (x.xs.drop 1).length ≤ _; rw [List.length_drop]; omega)
 have hgu := @mark_any
 clear h hxs hx
 have HQ := Lib.hid hq
 clear hq
 have e0 : (s.toList == [105, 110, 116]) = false := str_no n0
 have e1 : (s.toList == [112, 116, 114]) = false := str_no n1
 have e2 : (s.toList == [102, 110]) = false := str_no n2
 have e3 : (s.toList == [115, 116, 114, 117, 99, 116]) = false := str_no n3
 have e4 : (s.toList == [97, 114, 114, 97, 121]) = true := str_yes k4
 clear n0 n1 n2 n3 k4 hgu
 go_enter Tryz.func59, Tryz.ntmps59
 go_wp2_with (first
  | (go_at_call 58; refine (word_yes HX.out HNX.out).mono ?_; rintro e w1 ⟨rfl, hr, ht⟩; have HB1 := Lib.hid (Bx.call HB0.out hr ht (by decide)); have k0 := HB1.out.blk.cells 0; have k1 := HB1.out.blk.cells 1; have k2 := HB1.out.blk.cells 2; have k3 := HB1.out.blk.cells 3; have kz := HB1.out.blk.free; clear hr ht; have HM := Lib.hid (mark_any HB1.out.rd 116); rw [HD.out, HQ.out] at HM; rw [show ((116 : UInt8).toNat : Int) = 116 from rfl] at HM)
  | (go_at_call 100; refine HM.out.mono ?_; rintro e w2 ⟨ht, rfl⟩; have HT2 := Lib.hid ht; clear ht))
 exact ⟨rfl, HB1.out.tn.trans HT2.out, rfl⟩
theorem rkind_ptr (h : Rdr w g l x tv fv) (hx : x.xs.length ≤ 20000) {s : ByteArray} {t : List ByteArray} (hxs : x.xs = s :: t) (n0 : ¬ toL s = bInt) (k1 : toL s = bPtr) {n : Int} {W : List Bs} (hq : markQ 116 (t.map toL) = some (n, W)) : Calls Tryz.prog 59 #[.pointer (some ⟨g, 0, none⟩)] w (RdOut w g l tv fv (isTy w.heap.size) (some (⟨2, n, 0, []⟩, W))) := by
 have HB0 := Lib.hid (Bx.new h 78 #[.int .u8 0, .int .i64 0, .int .i64 0, .slice none 0 0])
 have HX := Lib.hid HB0.out.rd
 have HNX := Lib.hid hxs
 have HD : Hid (x.rest.data = t.map toL) := Lib.hid (by show (x.xs.drop 1).map toL = _; rw [hxs]; rfl)
 have HL : Hid (x.rest.xs.length ≤ 20000) := Lib.hid (by show (x.xs.drop 1).length ≤ _; rw [List.length_drop]; omega)
 have hgu := @mark_any
 clear h hxs hx
 have HQ := Lib.hid hq
 clear hq
 have e0 : (s.toList == [105, 110, 116]) = false := str_no n0
 have e1 : (s.toList == [112, 116, 114]) = true := str_yes k1
 clear n0 k1 hgu
 go_enter Tryz.func59, Tryz.ntmps59
 go_wp2_with (first
  | (go_at_call 58; refine (word_yes HX.out HNX.out).mono ?_; rintro e w1 ⟨rfl, hr, ht⟩; have HB1 := Lib.hid (Bx.call HB0.out hr ht (by decide)); have k0 := HB1.out.blk.cells 0; have k1 := HB1.out.blk.cells 1; have k2 := HB1.out.blk.cells 2; have k3 := HB1.out.blk.cells 3; have kz := HB1.out.blk.free; clear hr ht; have HM := Lib.hid (mark_any HB1.out.rd 116); rw [HD.out, HQ.out] at HM; rw [show ((116 : UInt8).toNat : Int) = 116 from rfl] at HM)
  | (go_at_call 100; refine HM.out.mono ?_; rintro e w2 ⟨ht, v2, x2, rfl, hv, hx2, hr⟩; have hv : v2 = .int .i64 n := hv; subst hv; have HB2 := Lib.hid (Bx.call HB1.out hr ht (by decide)); have HX2 := Lib.hid hx2; have m0 := HB2.out.blk.cells 0; have m1 := HB2.out.blk.cells 1; have m2 := HB2.out.blk.cells 2; have m3 := HB2.out.blk.cells 3; have mz := HB2.out.blk.free; clear ht hx2 hr; have HB3 := Lib.hid (Bx.four HB2.out (by decide) (by decide) (by decide) (.int .u8 2) (.int .i64 n) (.int .i64 0) (.slice none 0 0))))
 have HE := Lib.hid (Bx.four HB3.out (by decide) (by decide) (by decide) (.int .u8 2) (.int .i64 n) (.int .i64 0) (.slice none 0 0))
 have q0 := HE.out.blk.cells 0
 have q1 := HE.out.blk.cells 1
 have q2 := HE.out.blk.cells 2
 have q3 := HE.out.blk.cells 3
 exact bodyPost_ret (v := (TyR.val ⟨2, n, 0, none, 0, []⟩)) (by simp [results, Tryz.results59, go_sem, TyR.val, q0, q1, q2, q3]) rfl ⟨HE.out.tn, _, _, rfl, ⟨⟨2, n, 0, none, 0, []⟩, rfl, rfl, OwnInts.nil _ _, Nat.le_of_ble_eq_true rfl⟩, HX2.out, HE.out.rd⟩
theorem rkind_struct0 (h : Rdr w g l x tv fv) (hx : x.xs.length ≤ 20000) {s : ByteArray} {t : List ByteArray} (hxs : x.xs = s :: t) (n0 : ¬ toL s = bInt) (n1 : ¬ toL s = bPtr) (n2 : ¬ toL s = bFn) (k3 : toL s = bStruct) (hq : marksQ 116 (t.map toL) = none) : Calls Tryz.prog 59 #[.pointer (some ⟨g, 0, none⟩)] w (RdOut w g l tv fv (isTy w.heap.size) (none)) := by
 have HB0 := Lib.hid (Bx.new h 78 #[.int .u8 0, .int .i64 0, .int .i64 0, .slice none 0 0])
 have HX := Lib.hid HB0.out.rd
 have HNX := Lib.hid hxs
 have HD : Hid (x.rest.data = t.map toL) := Lib.hid (by show (x.xs.drop 1).map toL = _; rw [hxs]; rfl)
 have HL : Hid (x.rest.xs.length ≤ 20000) := Lib.hid (by show (x.xs.drop 1).length ≤ _; rw [List.length_drop]; omega)
 have hgu := @mark_any
 clear h hxs hx
 have HQ := Lib.hid hq
 clear hq
 have e0 : (s.toList == [105, 110, 116]) = false := str_no n0
 have e1 : (s.toList == [112, 116, 114]) = false := str_no n1
 have e2 : (s.toList == [102, 110]) = false := str_no n2
 have e3 : (s.toList == [115, 116, 114, 117, 99, 116]) = true := str_yes k3
 clear n0 n1 n2 k3 hgu
 go_enter Tryz.func59, Tryz.ntmps59
 go_wp2_with (first
  | (go_at_call 58; refine (word_yes HX.out HNX.out).mono ?_; rintro e w1 ⟨rfl, hr, ht⟩; have HB1 := Lib.hid (Bx.call HB0.out hr ht (by decide)); have k0 := HB1.out.blk.cells 0; have k1 := HB1.out.blk.cells 1; have k2 := HB1.out.blk.cells 2; have k3 := HB1.out.blk.cells 3; have kz := HB1.out.blk.free; clear hr ht; have HM := Lib.hid (marks_any HB1.out.rd 116 HL.out); rw [HD.out, HQ.out] at HM; rw [show ((116 : UInt8).toNat : Int) = 116 from rfl] at HM)
  | (go_at_call 101; refine HM.out.mono ?_; rintro e w2 ⟨ht, rfl⟩; have HT2 := Lib.hid ht; clear ht))
 exact ⟨rfl, HB1.out.tn.trans HT2.out, rfl⟩
theorem rkind_struct (h : Rdr w g l x tv fv) (hx : x.xs.length ≤ 20000) {s : ByteArray} {t : List ByteArray} (hxs : x.xs = s :: t) (n0 : ¬ toL s = bInt) (n1 : ¬ toL s = bPtr) (n2 : ¬ toL s = bFn) (k3 : toL s = bStruct) {ps : List Int} {W : List Bs} (hq : marksQ 116 (t.map toL) = some (ps, W)) : Calls Tryz.prog 59 #[.pointer (some ⟨g, 0, none⟩)] w (RdOut w g l tv fv (isTy w.heap.size) (some (⟨4, 0, 0, ps⟩, W))) := by
 have HB0 := Lib.hid (Bx.new h 78 #[.int .u8 0, .int .i64 0, .int .i64 0, .slice none 0 0])
 have HX := Lib.hid HB0.out.rd
 have HNX := Lib.hid hxs
 have HD : Hid (x.rest.data = t.map toL) := Lib.hid (by show (x.xs.drop 1).map toL = _; rw [hxs]; rfl)
 have HL : Hid (x.rest.xs.length ≤ 20000) := Lib.hid (by show (x.xs.drop 1).length ≤ _; rw [List.length_drop]; omega)
 have hgu := @mark_any
 clear h hxs hx
 have HQ := Lib.hid hq
 clear hq
 have e0 : (s.toList == [105, 110, 116]) = false := str_no n0
 have e1 : (s.toList == [112, 116, 114]) = false := str_no n1
 have e2 : (s.toList == [102, 110]) = false := str_no n2
 have e3 : (s.toList == [115, 116, 114, 117, 99, 116]) = true := str_yes k3
 clear n0 n1 n2 k3 hgu
 go_enter Tryz.func59, Tryz.ntmps59
 go_wp2_with (first
  | (go_at_call 58; refine (word_yes HX.out HNX.out).mono ?_; rintro e w1 ⟨rfl, hr, ht⟩; have HB1 := Lib.hid (Bx.call HB0.out hr ht (by decide)); have k0 := HB1.out.blk.cells 0; have k1 := HB1.out.blk.cells 1; have k2 := HB1.out.blk.cells 2; have k3 := HB1.out.blk.cells 3; have kz := HB1.out.blk.free; clear hr ht; have HM := Lib.hid (marks_any HB1.out.rd 116 HL.out); rw [HD.out, HQ.out] at HM; rw [show ((116 : UInt8).toNat : Int) = 116 from rfl] at HM)
  | (go_at_call 101; refine HM.out.mono ?_; rintro e w2 ⟨ht, v2, x2, rfl, hv, hx2, hr⟩; have hv : OwnInts _ _ v2 ps := hv; obtain ⟨A, ca, rfl, _⟩ := hv.form; have HO := Lib.hid (hv.more HB1.out.tn.size); have HB2 := Lib.hid (Bx.call HB1.out hr ht (by decide)); have HX2 := Lib.hid hx2; have m20 := HB2.out.blk.cells 0; have m21 := HB2.out.blk.cells 1; have m22 := HB2.out.blk.cells 2; have m23 := HB2.out.blk.cells 3; have m2z := HB2.out.blk.free; clear ht hx2 hr hv; have HB3 := Lib.hid (Bx.four HB2.out (by decide) (by decide) (by decide) (.int .u8 4) (.int .i64 0) (.int .i64 0) (.slice A ps.length ca))))
 have HE := Lib.hid (Bx.four HB3.out (by decide) (by decide) (by decide) (.int .u8 4) (.int .i64 0) (.int .i64 0) (.slice A ps.length ca))
 have q0 := HE.out.blk.cells 0
 have q1 := HE.out.blk.cells 1
 have q2 := HE.out.blk.cells 2
 have q3 := HE.out.blk.cells 3
 exact bodyPost_ret (v := (TyR.val ⟨4, 0, 0, A, ca, ps⟩)) (by simp [results, Tryz.results59, go_sem, TyR.val, q0, q1, q2, q3]) rfl ⟨HE.out.tn, _, _, rfl, ⟨⟨4, 0, 0, A, ca, ps⟩, rfl, rfl, OwnInts.four (OwnInts.four HO.out HB2.out.blk (by decide) _ _ _ _) HB3.out.blk (by decide) _ _ _ _, Nat.le_of_ble_eq_true rfl⟩, HX2.out, HE.out.rd⟩
theorem rkind_fn1 (h : Rdr w g l x tv fv) (hx : x.xs.length ≤ 20000) {s : ByteArray} {t : List ByteArray} (hxs : x.xs = s :: t) (n0 : ¬ toL s = bInt) (n1 : ¬ toL s = bPtr) (k2 : toL s = bFn) {n : Int} {W : List Bs} (hq : markQ 116 (t.map toL) = some (n, W)) (hlw : W.length ≤ 20000) (hq2 : marksQ 116 W = none) : Calls Tryz.prog 59 #[.pointer (some ⟨g, 0, none⟩)] w (RdOut w g l tv fv (isTy w.heap.size) (none)) := by
 have HB0 := Lib.hid (Bx.new h 78 #[.int .u8 0, .int .i64 0, .int .i64 0, .slice none 0 0])
 have HX := Lib.hid HB0.out.rd
 have HNX := Lib.hid hxs
 have HD : Hid (x.rest.data = t.map toL) := Lib.hid (by show (x.xs.drop 1).map toL = _; rw [hxs]; rfl)
 have HL : Hid (x.rest.xs.length ≤ 20000) := Lib.hid (by show (x.xs.drop 1).length ≤ _; rw [List.length_drop]; omega)
 have hgu := @mark_any
 clear h hxs hx
 have HQ := Lib.hid hq
 have HQ2 := Lib.hid hq2
 have HLW := Lib.hid hlw
 clear hq hq2 hlw
 have e0 : (s.toList == [105, 110, 116]) = false := str_no n0
 have e1 : (s.toList == [112, 116, 114]) = false := str_no n1
 have e2 : (s.toList == [102, 110]) = true := str_yes k2
 clear n0 n1 k2 hgu
 go_enter Tryz.func59, Tryz.ntmps59
 go_wp2_with (first
  | (go_at_call 58; refine (word_yes HX.out HNX.out).mono ?_; rintro e w1 ⟨rfl, hr, ht⟩; have HB1 := Lib.hid (Bx.call HB0.out hr ht (by decide)); have k0 := HB1.out.blk.cells 0; have k1 := HB1.out.blk.cells 1; have k2 := HB1.out.blk.cells 2; have k3 := HB1.out.blk.cells 3; have kz := HB1.out.blk.free; clear hr ht; have HM := Lib.hid (mark_any HB1.out.rd 116); rw [HD.out, HQ.out] at HM; rw [show ((116 : UInt8).toNat : Int) = 116 from rfl] at HM)
  | (go_at_call 100; refine HM.out.mono ?_; rintro e w2 ⟨ht, v2, x2, rfl, hv, hx2, hr⟩; have hv : v2 = .int .i64 n := hv; subst hv; have HB2 := Lib.hid (Bx.call HB1.out hr ht (by decide)); have HX2 := Lib.hid hx2; have m0 := HB2.out.blk.cells 0; have m1 := HB2.out.blk.cells 1; have m2 := HB2.out.blk.cells 2; have m3 := HB2.out.blk.cells 3; have mz := HB2.out.blk.free; clear ht hx2 hr; have HB3 := Lib.hid (Bx.four HB2.out (by decide) (by decide) (by decide) (.int .u8 3) (.int .i64 n) (.int .i64 0) (.slice none 0 0)); have hl2 : x2.xs.length ≤ 20000 := (by rw [← x2.data_len, HX2.out]; exact HLW.out); have HM2 := Lib.hid (marks_any HB3.out.rd 116 hl2); rw [HX2.out, HQ2.out] at HM2; rw [show ((116 : UInt8).toNat : Int) = 116 from rfl] at HM2; clear hl2)
  | (go_at_call 101; refine HM2.out.mono ?_; rintro e w4 ⟨ht, rfl⟩; have HT4 := Lib.hid ht; clear ht))
 exact ⟨rfl, HB3.out.tn.trans HT4.out, rfl⟩
theorem rkind_fn (h : Rdr w g l x tv fv) (hx : x.xs.length ≤ 20000) {s : ByteArray} {t : List ByteArray} (hxs : x.xs = s :: t) (n0 : ¬ toL s = bInt) (n1 : ¬ toL s = bPtr) (k2 : toL s = bFn) {n : Int} {W : List Bs} (hq : markQ 116 (t.map toL) = some (n, W)) (hlw : W.length ≤ 20000) {ps : List Int} {W2 : List Bs} (hq2 : marksQ 116 W = some (ps, W2)) : Calls Tryz.prog 59 #[.pointer (some ⟨g, 0, none⟩)] w (RdOut w g l tv fv (isTy w.heap.size) (some (⟨3, n, 0, ps⟩, W2))) := by
 have HB0 := Lib.hid (Bx.new h 78 #[.int .u8 0, .int .i64 0, .int .i64 0, .slice none 0 0])
 have HX := Lib.hid HB0.out.rd
 have HNX := Lib.hid hxs
 have HD : Hid (x.rest.data = t.map toL) := Lib.hid (by show (x.xs.drop 1).map toL = _; rw [hxs]; rfl)
 have HL : Hid (x.rest.xs.length ≤ 20000) := Lib.hid (by show (x.xs.drop 1).length ≤ _; rw [List.length_drop]; omega)
 have hgu := @mark_any
 clear h hxs hx
 have HQ := Lib.hid hq
 have HQ2 := Lib.hid hq2
 have HLW := Lib.hid hlw
 clear hq hq2 hlw
 have e0 : (s.toList == [105, 110, 116]) = false := str_no n0
 have e1 : (s.toList == [112, 116, 114]) = false := str_no n1
 have e2 : (s.toList == [102, 110]) = true := str_yes k2
 clear n0 n1 k2 hgu
 go_enter Tryz.func59, Tryz.ntmps59
 go_wp2_with (first
  | (go_at_call 58; refine (word_yes HX.out HNX.out).mono ?_; rintro e w1 ⟨rfl, hr, ht⟩; have HB1 := Lib.hid (Bx.call HB0.out hr ht (by decide)); have k0 := HB1.out.blk.cells 0; have k1 := HB1.out.blk.cells 1; have k2 := HB1.out.blk.cells 2; have k3 := HB1.out.blk.cells 3; have kz := HB1.out.blk.free; clear hr ht; have HM := Lib.hid (mark_any HB1.out.rd 116); rw [HD.out, HQ.out] at HM; rw [show ((116 : UInt8).toNat : Int) = 116 from rfl] at HM)
  | (go_at_call 100; refine HM.out.mono ?_; rintro e w2 ⟨ht, v2, x2, rfl, hv, hx2, hr⟩; have hv : v2 = .int .i64 n := hv; subst hv; have HB2 := Lib.hid (Bx.call HB1.out hr ht (by decide)); have HX2 := Lib.hid hx2; have m0 := HB2.out.blk.cells 0; have m1 := HB2.out.blk.cells 1; have m2 := HB2.out.blk.cells 2; have m3 := HB2.out.blk.cells 3; have mz := HB2.out.blk.free; clear ht hx2 hr; have HB3 := Lib.hid (Bx.four HB2.out (by decide) (by decide) (by decide) (.int .u8 3) (.int .i64 n) (.int .i64 0) (.slice none 0 0)); have hl2 : x2.xs.length ≤ 20000 := (by rw [← x2.data_len, HX2.out]; exact HLW.out); have HM2 := Lib.hid (marks_any HB3.out.rd 116 hl2); rw [HX2.out, HQ2.out] at HM2; rw [show ((116 : UInt8).toNat : Int) = 116 from rfl] at HM2; clear hl2)
  | (go_at_call 101; refine HM2.out.mono ?_; rintro e w4 ⟨ht, v4, x4, rfl, hv, hx2, hr⟩; have hv : OwnInts _ _ v4 ps := hv; obtain ⟨A, ca, rfl, _⟩ := hv.form; have HO := Lib.hid (hv.more HB3.out.tn.size); have HB4 := Lib.hid (Bx.call HB3.out hr ht (by decide)); have HX4 := Lib.hid hx2; have m40 := HB4.out.blk.cells 0; have m41 := HB4.out.blk.cells 1; have m42 := HB4.out.blk.cells 2; have m43 := HB4.out.blk.cells 3; have m4z := HB4.out.blk.free; clear ht hx2 hr hv; have HB5 := Lib.hid (Bx.put HB4.out (by decide) (by decide) (by decide) 3 (.slice A ps.length ca))))
 have HE := Lib.hid (Bx.four HB5.out (by decide) (by decide) (by decide) (.int .u8 3) (.int .i64 n) (.int .i64 0) (.slice A ps.length ca))
 have q0 := HE.out.blk.cells 0
 have q1 := HE.out.blk.cells 1
 have q2 := HE.out.blk.cells 2
 have q3 := HE.out.blk.cells 3
 exact bodyPost_ret (v := (TyR.val ⟨3, n, 0, A, ca, ps⟩)) (by simp [results, Tryz.results59, go_sem, TyR.val, q0, q1, q2, q3]) rfl ⟨HE.out.tn, _, _, rfl, ⟨⟨3, n, 0, A, ca, ps⟩, rfl, rfl, OwnInts.four (OwnInts.spare HO.out (Spare.set HB4.out.blk _) (by decide)) HB5.out.blk (by decide) _ _ _ _, Nat.le_of_ble_eq_true rfl⟩, HX4.out, HE.out.rd⟩
theorem rkind_arr1 (h : Rdr w g l x tv fv) (hx : x.xs.length ≤ 20000) {s : ByteArray} {t : List ByteArray} (hxs : x.xs = s :: t) (n0 : ¬ toL s = bInt) (n1 : ¬ toL s = bPtr) (n2 : ¬ toL s = bFn) (n3 : ¬ toL s = bStruct) (k4 : toL s = bArray) {n : Int} {W : List Bs} (hq : markQ 116 (t.map toL) = some (n, W)) (hq2 : smallQ W = none) : Calls Tryz.prog 59 #[.pointer (some ⟨g, 0, none⟩)] w (RdOut w g l tv fv (isTy w.heap.size) (none)) := by
 have HB0 := Lib.hid (Bx.new h 78 #[.int .u8 0, .int .i64 0, .int .i64 0, .slice none 0 0])
 have HX := Lib.hid HB0.out.rd
 have HNX := Lib.hid hxs
 have HD : Hid (x.rest.data = t.map toL) := Lib.hid (by show (x.xs.drop 1).map toL = _; rw [hxs]; rfl)
 have HL : Hid (x.rest.xs.length ≤ 20000) := Lib.hid (by show (x.xs.drop 1).length ≤ _; rw [List.length_drop]; omega)
 have hgu := @mark_any
 clear h hxs hx
 have HQ := Lib.hid hq
 have HQ2 := Lib.hid hq2
 clear hq hq2
 have e0 : (s.toList == [105, 110, 116]) = false := str_no n0
 have e1 : (s.toList == [112, 116, 114]) = false := str_no n1
 have e2 : (s.toList == [102, 110]) = false := str_no n2
 have e3 : (s.toList == [115, 116, 114, 117, 99, 116]) = false := str_no n3
 have e4 : (s.toList == [97, 114, 114, 97, 121]) = true := str_yes k4
 clear n0 n1 n2 n3 k4 hgu
 go_enter Tryz.func59, Tryz.ntmps59
 go_wp2_with (first
  | (go_at_call 58; refine (word_yes HX.out HNX.out).mono ?_; rintro e w1 ⟨rfl, hr, ht⟩; have HB1 := Lib.hid (Bx.call HB0.out hr ht (by decide)); have k0 := HB1.out.blk.cells 0; have k1 := HB1.out.blk.cells 1; have k2 := HB1.out.blk.cells 2; have k3 := HB1.out.blk.cells 3; have kz := HB1.out.blk.free; clear hr ht; have HM := Lib.hid (mark_any HB1.out.rd 116); rw [HD.out, HQ.out] at HM; rw [show ((116 : UInt8).toNat : Int) = 116 from rfl] at HM)
  | (go_at_call 100; refine HM.out.mono ?_; rintro e w2 ⟨ht, v2, x2, rfl, hv, hx2, hr⟩; have hv : v2 = .int .i64 n := hv; subst hv; have HB2 := Lib.hid (Bx.call HB1.out hr ht (by decide)); have HX2 := Lib.hid hx2; have m0 := HB2.out.blk.cells 0; have m1 := HB2.out.blk.cells 1; have m2 := HB2.out.blk.cells 2; have m3 := HB2.out.blk.cells 3; have mz := HB2.out.blk.free; clear ht hx2 hr; have HB3 := Lib.hid (Bx.four HB2.out (by decide) (by decide) (by decide) (.int .u8 5) (.int .i64 n) (.int .i64 0) (.slice none 0 0)); have HM2 := Lib.hid (small_any HB3.out.rd); rw [HX2.out, HQ2.out] at HM2)
  | (go_at_call 102; refine HM2.out.mono ?_; rintro e w4 ⟨ht, rfl⟩; have HT4 := Lib.hid ht; clear ht))
 exact ⟨rfl, HB3.out.tn.trans HT4.out, rfl⟩
theorem rkind_arr (h : Rdr w g l x tv fv) (hx : x.xs.length ≤ 20000) {s : ByteArray} {t : List ByteArray} (hxs : x.xs = s :: t) (n0 : ¬ toL s = bInt) (n1 : ¬ toL s = bPtr) (n2 : ¬ toL s = bFn) (n3 : ¬ toL s = bStruct) (k4 : toL s = bArray) {n : Int} {W : List Bs} (hq : markQ 116 (t.map toL) = some (n, W)) {m : Int} {W2 : List Bs} (hq2 : smallQ W = some (m, W2)) : Calls Tryz.prog 59 #[.pointer (some ⟨g, 0, none⟩)] w (RdOut w g l tv fv (isTy w.heap.size) (some (⟨5, n, m, []⟩, W2))) := by
 have HB0 := Lib.hid (Bx.new h 78 #[.int .u8 0, .int .i64 0, .int .i64 0, .slice none 0 0])
 have HX := Lib.hid HB0.out.rd
 have HNX := Lib.hid hxs
 have HD : Hid (x.rest.data = t.map toL) := Lib.hid (by show (x.xs.drop 1).map toL = _; rw [hxs]; rfl)
 have HL : Hid (x.rest.xs.length ≤ 20000) := Lib.hid (by show (x.xs.drop 1).length ≤ _; rw [List.length_drop]; omega)
 have hgu := @mark_any
 clear h hxs hx
 have HQ := Lib.hid hq
 have HQ2 := Lib.hid hq2
 clear hq hq2
 have e0 : (s.toList == [105, 110, 116]) = false := str_no n0
 have e1 : (s.toList == [112, 116, 114]) = false := str_no n1
 have e2 : (s.toList == [102, 110]) = false := str_no n2
 have e3 : (s.toList == [115, 116, 114, 117, 99, 116]) = false := str_no n3
 have e4 : (s.toList == [97, 114, 114, 97, 121]) = true := str_yes k4
 clear n0 n1 n2 n3 k4 hgu
 go_enter Tryz.func59, Tryz.ntmps59
 go_wp2_with (first
  | (go_at_call 58; refine (word_yes HX.out HNX.out).mono ?_; rintro e w1 ⟨rfl, hr, ht⟩; have HB1 := Lib.hid (Bx.call HB0.out hr ht (by decide)); have k0 := HB1.out.blk.cells 0; have k1 := HB1.out.blk.cells 1; have k2 := HB1.out.blk.cells 2; have k3 := HB1.out.blk.cells 3; have kz := HB1.out.blk.free; clear hr ht; have HM := Lib.hid (mark_any HB1.out.rd 116); rw [HD.out, HQ.out] at HM; rw [show ((116 : UInt8).toNat : Int) = 116 from rfl] at HM)
  | (go_at_call 100; refine HM.out.mono ?_; rintro e w2 ⟨ht, v2, x2, rfl, hv, hx2, hr⟩; have hv : v2 = .int .i64 n := hv; subst hv; have HB2 := Lib.hid (Bx.call HB1.out hr ht (by decide)); have HX2 := Lib.hid hx2; have m0 := HB2.out.blk.cells 0; have m1 := HB2.out.blk.cells 1; have m2 := HB2.out.blk.cells 2; have m3 := HB2.out.blk.cells 3; have mz := HB2.out.blk.free; clear ht hx2 hr; have HB3 := Lib.hid (Bx.four HB2.out (by decide) (by decide) (by decide) (.int .u8 5) (.int .i64 n) (.int .i64 0) (.slice none 0 0)); have HM2 := Lib.hid (small_any HB3.out.rd); rw [HX2.out, HQ2.out] at HM2)
  | (go_at_call 102; refine HM2.out.mono ?_; rintro e w4 ⟨ht, v4, x4, rfl, hv, hx2, hr⟩; have hv : v4 = .int .i64 m := hv; subst hv; have HB4 := Lib.hid (Bx.call HB3.out hr ht (by decide)); have HX4 := Lib.hid hx2; have p0 := HB4.out.blk.cells 0; have p1 := HB4.out.blk.cells 1; have p2 := HB4.out.blk.cells 2; have p3 := HB4.out.blk.cells 3; have pz := HB4.out.blk.free; clear ht hx2 hr; have HB5 := Lib.hid (Bx.put HB4.out (by decide) (by decide) (by decide) 2 (.int .i64 m))))
 have HE := Lib.hid (Bx.four HB5.out (by decide) (by decide) (by decide) (.int .u8 5) (.int .i64 n) (.int .i64 m) (.slice none 0 0))
 have q0 := HE.out.blk.cells 0
 have q1 := HE.out.blk.cells 1
 have q2 := HE.out.blk.cells 2
 have q3 := HE.out.blk.cells 3
 exact bodyPost_ret (v := (TyR.val ⟨5, n, m, none, 0, []⟩)) (by simp [results, Tryz.results59, go_sem, TyR.val, q0, q1, q2, q3]) rfl ⟨HE.out.tn, _, _, rfl, ⟨⟨5, n, m, none, 0, []⟩, rfl, rfl, OwnInts.nil _ _, Nat.le_of_ble_eq_true rfl⟩, HX4.out, HE.out.rd⟩
theorem rkind_none (h : Rdr w g l x tv fv) (hx : x.xs.length ≤ 20000) {s : ByteArray} {t : List ByteArray} (hxs : x.xs = s :: t) (n0 : ¬ toL s = bInt) (n1 : ¬ toL s = bPtr) (n2 : ¬ toL s = bFn) (n3 : ¬ toL s = bStruct) (n4 : ¬ toL s = bArray) : Calls Tryz.prog 59 #[.pointer (some ⟨g, 0, none⟩)] w (RdOut w g l tv fv (isTy w.heap.size) (none)) := by
 have HB0 := Lib.hid (Bx.new h 78 #[.int .u8 0, .int .i64 0, .int .i64 0, .slice none 0 0])
 have HX := Lib.hid HB0.out.rd
 have HNX := Lib.hid hxs
 have HD : Hid (x.rest.data = t.map toL) := Lib.hid (by show (x.xs.drop 1).map toL = _; rw [hxs]; rfl)
 have HL : Hid (x.rest.xs.length ≤ 20000) := Lib.hid (by show (x.xs.drop 1).length ≤ _; rw [List.length_drop]; omega)
 have hgu := @mark_any
 clear h hxs hx
 have e0 : (s.toList == [105, 110, 116]) = false := str_no n0
 have e1 : (s.toList == [112, 116, 114]) = false := str_no n1
 have e2 : (s.toList == [102, 110]) = false := str_no n2
 have e3 : (s.toList == [115, 116, 114, 117, 99, 116]) = false := str_no n3
 have e4 : (s.toList == [97, 114, 114, 97, 121]) = false := str_no n4
 clear n0 n1 n2 n3 n4 hgu
 have hno := need_no
 go_enter Tryz.func59, Tryz.ntmps59
 go_wp2_with (first
  | (go_at_call 58; refine (word_yes HX.out HNX.out).mono ?_; rintro e w1 ⟨rfl, hr, ht⟩; have HB1 := Lib.hid (Bx.call HB0.out hr ht (by decide)); have k0 := HB1.out.blk.cells 0; have k1 := HB1.out.blk.cells 1; have k2 := HB1.out.blk.cells 2; have k3 := HB1.out.blk.cells 3; have kz := HB1.out.blk.free; clear hr ht)
  | (go_at_call 60; refine (hno _).mono ?_; rintro e w3 ⟨rfl, rfl⟩))
 exact ⟨rfl, HB1.out.tn, rfl⟩
theorem rkind_any (h : Rdr w g l x tv fv) (hx : x.xs.length ≤ 20000) : Calls Tryz.prog 59 #[.pointer (some ⟨g, 0, none⟩)] w (RdOut w g l tv fv (isTy w.heap.size) (kindQ x.data)) := by
 cases hxs : x.xs with
 | nil =>
   rw [show x.data = [] by show x.xs.map toL = []; rw [hxs]; rfl]
   have HB0 := Lib.hid (Bx.new h 78 #[.int .u8 0, .int .i64 0, .int .i64 0, .slice none 0 0])
   have HX := Lib.hid HB0.out.rd
   have HNX := Lib.hid hxs
   clear hxs h hx
   go_enter Tryz.func59, Tryz.ntmps59
   go_wp2_with (go_at_call 58; refine (word_no HX.out HNX.out).mono ?_; rintro e w1 ⟨rfl, rfl⟩)
   exact ⟨rfl, HB0.out.tn, rfl⟩
 | cons s t =>
   have hd : x.data = toL s :: t.map toL := by show x.xs.map toL = _; rw [hxs]; rfl
   have hlt : ∀ (n : Int) (W : List Bs), markQ 116 (t.map toL) = some (n, W) → W.length ≤ 20000 := by
    intro n W e
    have h1 : (t.map toL).length = t.length := List.length_map ..
    have h2 : t.length + 1 = x.xs.length := by rw [hxs]; rfl
    cases ht : t.map toL with
    | nil => rw [ht] at e; cases e
    | cons a r =>
      rw [ht] at e h1
      have e : (markP a 116).map (fun n => (n, r)) = some (n, W) := e
      cases hm : markP a 116 with
      | none => rw [hm] at e; cases e
      | some k =>
        rw [hm] at e
        have e2 : (k, r) = (n, W) := Option.some.inj e
        have e3 : r = W := congrArg Prod.snd e2
        rw [← e3]
        have : r.length + 1 = t.length := h1
        omega
   rw [hd, kindQ_cons]
   by_cases k0 : toL s = bInt
   · rw [if_pos k0]; exact rkind_int h hx hxs k0
   rw [if_neg k0]
   by_cases k1 : toL s = bPtr
   · rw [if_pos k1]
     cases hq : markQ 116 (t.map toL) with
     | none => exact rkind_ptr0 h hx hxs k0 k1 hq
     | some q => exact rkind_ptr h hx hxs k0 k1 hq
   rw [if_neg k1]
   by_cases k2 : toL s = bFn
   · rw [if_pos k2]
     cases hq : markQ 116 (t.map toL) with
     | none => exact rkind_fn0 h hx hxs k0 k1 k2 hq
     | some q =>
       dsimp only
       cases hq2 : marksQ 116 q.2 with
       | none => exact rkind_fn1 h hx hxs k0 k1 k2 hq (hlt _ _ hq) hq2
       | some q' => exact rkind_fn h hx hxs k0 k1 k2 hq (hlt _ _ hq) hq2
   rw [if_neg k2]
   by_cases k3 : toL s = bStruct
   · rw [if_pos k3]
     cases hq : marksQ 116 (t.map toL) with
     | none => exact rkind_struct0 h hx hxs k0 k1 k2 k3 hq
     | some q => exact rkind_struct h hx hxs k0 k1 k2 k3 hq
   rw [if_neg k3]
   by_cases k4 : toL s = bArray
   · rw [if_pos k4]
     cases hq : markQ 116 (t.map toL) with
     | none => exact rkind_arr0 h hx hxs k0 k1 k2 k3 k4 hq
     | some q =>
       dsimp only
       cases hq2 : smallQ q.2 with
       | none => exact rkind_arr1 h hx hxs k0 k1 k2 k3 k4 hq hq2
       | some q' => exact rkind_arr h hx hxs k0 k1 k2 k3 k4 hq hq2
   rw [if_neg k4]
   exact rkind_none h hx hxs k0 k1 k2 k3 k4
end
def endQ : List Bs → Option (PEnd × List Bs)
 | [] => none
 | k :: r =>
   if k = bJump then (markQ 98 r).map fun q => (⟨1, 0, q.1, 0⟩, q.2)
   else if k = bBranch then (match markQ 114 r with
    | none => none
    | some q => (match markQ 98 q.2 with
      | none => none
      | some q' => (markQ 98 q'.2).map fun q'' => (⟨2, q.1, q'.1, q''.1⟩, q''.2)))
   else (markQ 114 r).map fun q => (⟨3, q.1, 0, 0⟩, q.2)
theorem endQ_cons (k : Bs) (r : List Bs) : endQ (k :: r) = (if k = bJump then (markQ 98 r).map fun q => (⟨1, 0, q.1, 0⟩, q.2)
 else if k = bBranch then (match markQ 114 r with
  | none => none
  | some q => (match markQ 98 q.2 with
    | none => none
    | some q' => (markQ 98 q'.2).map fun q'' => (⟨2, q.1, q'.1, q''.1⟩, q''.2)))
 else (markQ 114 r).map fun q => (⟨3, q.1, 0, 0⟩, q.2)) := rfl
def PEnd.val (x : PEnd) : Value := .agg #[.int .u8 x.kind, .int .i64 x.a, .int .i64 x.to, .int .i64 x.els]
def isEnd (t : PEnd) (v : Value) (_ : World) : Prop := v = t.val ∧ t.kind ≤ 255
theorem Bx.on {g B : Nat} {w0 w w' : World} {l : LsR} {x : LnR} {tv fv : Value} {t : TypeId} {cs : Array Value} (h : Bx w0 w g l x tv fv B t cs) (hb : Below w.heap.size w w') : Bx w0 w' g l x tv fv B t cs := ⟨h.blk.beneath hb, h.rd.on hb, h.tn.on hb, h.lo⟩
section
variable {g : Nat} {w : World} {l : LsR} {x : LnR} {tv fv : Value}
theorem rend_jump0 (h : Rdr w g l x tv fv) {s : ByteArray} {t : List ByteArray} (hxs : x.xs = s :: t) (k0 : toL s = bJump) (hq : markQ 98 (t.map toL) = none) : Calls Tryz.prog 138 #[.pointer (some ⟨g, 0, none⟩)] w (RdOut w g l tv fv isEnd (none)) := by
 have HB0 := Lib.hid (Bx.new h 69 #[.int .u8 0, .int .i64 0, .int .i64 0, .int .i64 0])
 have HX := Lib.hid HB0.out.rd
 have HNX := Lib.hid hxs
 have HD : Hid (x.rest.data = t.map toL) := Lib.hid (by show (x.xs.drop 1).map toL = _; rw [hxs]; rfl)
 have c98 : ((98 : UInt8).toNat : Int) = 98 := rfl
 have c114 : ((114 : UInt8).toNat : Int) = 114 := rfl
 have HC98 := Lib.hid c98
 have HC114 := Lib.hid c114
 clear h hxs c98 c114
 have HQ := Lib.hid hq
 clear hq
 have e0 : (s.toList == [106, 117, 109, 112]) = true := str_yes k0
 clear k0
 go_enter Tryz.func138, Tryz.ntmps138
 go_wp2_with (first
  | (go_at_call 58; refine (word_yes HX.out HNX.out).mono ?_; rintro e w1 ⟨rfl, hr, ht⟩; have HB1 := Lib.hid (Bx.call HB0.out hr ht (by decide)); have k0 := HB1.out.blk.cells 0; have k1 := HB1.out.blk.cells 1; have k2 := HB1.out.blk.cells 2; have k3 := HB1.out.blk.cells 3; have kz := HB1.out.blk.free; clear hr ht; have HM := Lib.hid (mark_any HB1.out.rd 98); rw [HD.out, HQ.out, HC98.out] at HM)
  | (go_at_call 100; refine HM.out.mono ?_; rintro e w2 ⟨ht, rfl⟩; have HT2 := Lib.hid ht; clear ht))
 exact ⟨rfl, HB1.out.tn.trans HT2.out, rfl⟩
theorem rend_jump (h : Rdr w g l x tv fv) {s : ByteArray} {t : List ByteArray} (hxs : x.xs = s :: t) (k0 : toL s = bJump) {n : Int} {W : List Bs} (hq : markQ 98 (t.map toL) = some (n, W)) : Calls Tryz.prog 138 #[.pointer (some ⟨g, 0, none⟩)] w (RdOut w g l tv fv isEnd (some (⟨1, 0, n, 0⟩, W))) := by
 have HB0 := Lib.hid (Bx.new h 69 #[.int .u8 0, .int .i64 0, .int .i64 0, .int .i64 0])
 have HX := Lib.hid HB0.out.rd
 have HNX := Lib.hid hxs
 have HD : Hid (x.rest.data = t.map toL) := Lib.hid (by show (x.xs.drop 1).map toL = _; rw [hxs]; rfl)
 have c98 : ((98 : UInt8).toNat : Int) = 98 := rfl
 have c114 : ((114 : UInt8).toNat : Int) = 114 := rfl
 have HC98 := Lib.hid c98
 have HC114 := Lib.hid c114
 clear h hxs c98 c114
 have HQ := Lib.hid hq
 clear hq
 have e0 : (s.toList == [106, 117, 109, 112]) = true := str_yes k0
 clear k0
 go_enter Tryz.func138, Tryz.ntmps138
 go_wp2_with (first
  | (go_at_call 58; refine (word_yes HX.out HNX.out).mono ?_; rintro e w1 ⟨rfl, hr, ht⟩; have HB1 := Lib.hid (Bx.call HB0.out hr ht (by decide)); have k0 := HB1.out.blk.cells 0; have k1 := HB1.out.blk.cells 1; have k2 := HB1.out.blk.cells 2; have k3 := HB1.out.blk.cells 3; have kz := HB1.out.blk.free; clear hr ht; have HM := Lib.hid (mark_any HB1.out.rd 98); rw [HD.out, HQ.out, HC98.out] at HM)
  | (go_at_call 100; refine HM.out.mono ?_; rintro e w2 ⟨ht, v2, x2, rfl, hv, hx2, hr⟩; have hv : v2 = .int .i64 n := hv; subst hv; have HB2 := Lib.hid (Bx.call HB1.out hr ht (by decide)); have HX2 := Lib.hid hx2; have m0 := HB2.out.blk.cells 0; have m1 := HB2.out.blk.cells 1; have m2 := HB2.out.blk.cells 2; have m3 := HB2.out.blk.cells 3; have mz := HB2.out.blk.free; clear ht hx2 hr; have HB3 := Lib.hid (Bx.four HB2.out (by decide) (by decide) (by decide) (.int .u8 1) (.int .i64 0) (.int .i64 n) (.int .i64 0))))
 have HE := Lib.hid (Bx.four HB3.out (by decide) (by decide) (by decide) (.int .u8 1) (.int .i64 0) (.int .i64 n) (.int .i64 0))
 have q0 := HE.out.blk.cells 0
 have q1 := HE.out.blk.cells 1
 have q2 := HE.out.blk.cells 2
 have q3 := HE.out.blk.cells 3
 exact bodyPost_ret (v := (PEnd.val ⟨1, 0, n, 0⟩)) (by simp [results, Tryz.results138, go_sem, PEnd.val, q0, q1, q2, q3]) rfl ⟨HE.out.tn, _, _, rfl, ⟨rfl, Nat.le_of_ble_eq_true rfl⟩, HX2.out, HE.out.rd⟩
theorem rend_ret0 (h : Rdr w g l x tv fv) {s : ByteArray} {t : List ByteArray} (hxs : x.xs = s :: t) (n0 : ¬ toL s = bJump) (n1 : ¬ toL s = bBranch) (hq : markQ 114 (t.map toL) = none) : Calls Tryz.prog 138 #[.pointer (some ⟨g, 0, none⟩)] w (RdOut w g l tv fv isEnd (none)) := by
 have HB0 := Lib.hid (Bx.new h 69 #[.int .u8 0, .int .i64 0, .int .i64 0, .int .i64 0])
 have HX := Lib.hid HB0.out.rd
 have HNX := Lib.hid hxs
 have HD : Hid (x.rest.data = t.map toL) := Lib.hid (by show (x.xs.drop 1).map toL = _; rw [hxs]; rfl)
 have c98 : ((98 : UInt8).toNat : Int) = 98 := rfl
 have c114 : ((114 : UInt8).toNat : Int) = 114 := rfl
 have HC98 := Lib.hid c98
 have HC114 := Lib.hid c114
 clear h hxs c98 c114
 have HQ := Lib.hid hq
 clear hq
 have e0 : (s.toList == [106, 117, 109, 112]) = false := str_no n0
 have e1 : (s.toList == [98, 114, 97, 110, 99, 104]) = false := str_no n1
 clear n0 n1
 go_enter Tryz.func138, Tryz.ntmps138
 go_wp2_with (first
  | (go_at_call 58; refine (word_yes HX.out HNX.out).mono ?_; rintro e w1 ⟨rfl, hr, ht⟩; have HB1 := Lib.hid (Bx.call HB0.out hr ht (by decide)); have k0 := HB1.out.blk.cells 0; have k1 := HB1.out.blk.cells 1; have k2 := HB1.out.blk.cells 2; have k3 := HB1.out.blk.cells 3; have kz := HB1.out.blk.free; clear hr ht; have HM := Lib.hid (mark_any HB1.out.rd 114); rw [HD.out, HQ.out, HC114.out] at HM)
  | (go_at_call 100; refine HM.out.mono ?_; rintro e w2 ⟨ht, rfl⟩; have HT2 := Lib.hid ht; clear ht))
 exact ⟨rfl, HB1.out.tn.trans HT2.out, rfl⟩
theorem rend_ret (h : Rdr w g l x tv fv) {s : ByteArray} {t : List ByteArray} (hxs : x.xs = s :: t) (n0 : ¬ toL s = bJump) (n1 : ¬ toL s = bBranch) {n : Int} {W : List Bs} (hq : markQ 114 (t.map toL) = some (n, W)) : Calls Tryz.prog 138 #[.pointer (some ⟨g, 0, none⟩)] w (RdOut w g l tv fv isEnd (some (⟨3, n, 0, 0⟩, W))) := by
 have HB0 := Lib.hid (Bx.new h 69 #[.int .u8 0, .int .i64 0, .int .i64 0, .int .i64 0])
 have HX := Lib.hid HB0.out.rd
 have HNX := Lib.hid hxs
 have HD : Hid (x.rest.data = t.map toL) := Lib.hid (by show (x.xs.drop 1).map toL = _; rw [hxs]; rfl)
 have c98 : ((98 : UInt8).toNat : Int) = 98 := rfl
 have c114 : ((114 : UInt8).toNat : Int) = 114 := rfl
 have HC98 := Lib.hid c98
 have HC114 := Lib.hid c114
 clear h hxs c98 c114
 have HQ := Lib.hid hq
 clear hq
 have e0 : (s.toList == [106, 117, 109, 112]) = false := str_no n0
 have e1 : (s.toList == [98, 114, 97, 110, 99, 104]) = false := str_no n1
 clear n0 n1
 go_enter Tryz.func138, Tryz.ntmps138
 go_wp2_with (first
  | (go_at_call 58; refine (word_yes HX.out HNX.out).mono ?_; rintro e w1 ⟨rfl, hr, ht⟩; have HB1 := Lib.hid (Bx.call HB0.out hr ht (by decide)); have k0 := HB1.out.blk.cells 0; have k1 := HB1.out.blk.cells 1; have k2 := HB1.out.blk.cells 2; have k3 := HB1.out.blk.cells 3; have kz := HB1.out.blk.free; clear hr ht; have HM := Lib.hid (mark_any HB1.out.rd 114); rw [HD.out, HQ.out, HC114.out] at HM)
  | (go_at_call 100; refine HM.out.mono ?_; rintro e w2 ⟨ht, v2, x2, rfl, hv, hx2, hr⟩; have hv : v2 = .int .i64 n := hv; subst hv; have HB2 := Lib.hid (Bx.call HB1.out hr ht (by decide)); have HX2 := Lib.hid hx2; have m0 := HB2.out.blk.cells 0; have m1 := HB2.out.blk.cells 1; have m2 := HB2.out.blk.cells 2; have m3 := HB2.out.blk.cells 3; have mz := HB2.out.blk.free; clear ht hx2 hr; have HB3 := Lib.hid (Bx.four HB2.out (by decide) (by decide) (by decide) (.int .u8 3) (.int .i64 n) (.int .i64 0) (.int .i64 0))))
 have HE := Lib.hid (Bx.four HB3.out (by decide) (by decide) (by decide) (.int .u8 3) (.int .i64 n) (.int .i64 0) (.int .i64 0))
 have q0 := HE.out.blk.cells 0
 have q1 := HE.out.blk.cells 1
 have q2 := HE.out.blk.cells 2
 have q3 := HE.out.blk.cells 3
 exact bodyPost_ret (v := (PEnd.val ⟨3, n, 0, 0⟩)) (by simp [results, Tryz.results138, go_sem, PEnd.val, q0, q1, q2, q3]) rfl ⟨HE.out.tn, _, _, rfl, ⟨rfl, Nat.le_of_ble_eq_true rfl⟩, HX2.out, HE.out.rd⟩
theorem rend_br0 (h : Rdr w g l x tv fv) {s : ByteArray} {t : List ByteArray} (hxs : x.xs = s :: t) (n0 : ¬ toL s = bJump) (k1 : toL s = bBranch) (hq : markQ 114 (t.map toL) = none) : Calls Tryz.prog 138 #[.pointer (some ⟨g, 0, none⟩)] w (RdOut w g l tv fv isEnd (none)) := by
 have HB0 := Lib.hid (Bx.new h 69 #[.int .u8 0, .int .i64 0, .int .i64 0, .int .i64 0])
 have HX := Lib.hid HB0.out.rd
 have HNX := Lib.hid hxs
 have HD : Hid (x.rest.data = t.map toL) := Lib.hid (by show (x.xs.drop 1).map toL = _; rw [hxs]; rfl)
 have c98 : ((98 : UInt8).toNat : Int) = 98 := rfl
 have c114 : ((114 : UInt8).toNat : Int) = 114 := rfl
 have HC98 := Lib.hid c98
 have HC114 := Lib.hid c114
 clear h hxs c98 c114
 have HQ := Lib.hid hq
 clear hq
 have e0 : (s.toList == [106, 117, 109, 112]) = false := str_no n0
 have e1 : (s.toList == [98, 114, 97, 110, 99, 104]) = true := str_yes k1
 clear n0 k1
 go_enter Tryz.func138, Tryz.ntmps138
 go_wp2_with (first
  | (go_at_call 58; refine (word_yes HX.out HNX.out).mono ?_; rintro e w1 ⟨rfl, hr, ht⟩; have HB1 := Lib.hid (Bx.call HB0.out hr ht (by decide)); have k0 := HB1.out.blk.cells 0; have k1 := HB1.out.blk.cells 1; have k2 := HB1.out.blk.cells 2; have k3 := HB1.out.blk.cells 3; have kz := HB1.out.blk.free; clear hr ht; have HM := Lib.hid (mark_any HB1.out.rd 114); rw [HD.out, HQ.out, HC114.out] at HM)
  | (go_at_call 100; refine HM.out.mono ?_; rintro e w2 ⟨ht, rfl⟩; have HT2 := Lib.hid ht; clear ht))
 exact ⟨rfl, HB1.out.tn.trans HT2.out, rfl⟩
theorem rend_br1 (h : Rdr w g l x tv fv) {s : ByteArray} {t : List ByteArray} (hxs : x.xs = s :: t) (n0 : ¬ toL s = bJump) (k1 : toL s = bBranch) {n : Int} {W : List Bs} (hq : markQ 114 (t.map toL) = some (n, W)) (hq2 : markQ 98 W = none) : Calls Tryz.prog 138 #[.pointer (some ⟨g, 0, none⟩)] w (RdOut w g l tv fv isEnd (none)) := by
 have HB0 := Lib.hid (Bx.new h 69 #[.int .u8 0, .int .i64 0, .int .i64 0, .int .i64 0])
 have HX := Lib.hid HB0.out.rd
 have HNX := Lib.hid hxs
 have HD : Hid (x.rest.data = t.map toL) := Lib.hid (by show (x.xs.drop 1).map toL = _; rw [hxs]; rfl)
 have c98 : ((98 : UInt8).toNat : Int) = 98 := rfl
 have c114 : ((114 : UInt8).toNat : Int) = 114 := rfl
 have HC98 := Lib.hid c98
 have HC114 := Lib.hid c114
 clear h hxs c98 c114
 have HQ := Lib.hid hq
 have HQ2 := Lib.hid hq2
 clear hq hq2
 have e0 : (s.toList == [106, 117, 109, 112]) = false := str_no n0
 have e1 : (s.toList == [98, 114, 97, 110, 99, 104]) = true := str_yes k1
 clear n0 k1
 go_enter Tryz.func138, Tryz.ntmps138
 go_wp2_with (first
  | (go_at_call 58; refine (word_yes HX.out HNX.out).mono ?_; rintro e w1 ⟨rfl, hr, ht⟩; have HB1 := Lib.hid (Bx.call HB0.out hr ht (by decide)); have k0 := HB1.out.blk.cells 0; have k1 := HB1.out.blk.cells 1; have k2 := HB1.out.blk.cells 2; have k3 := HB1.out.blk.cells 3; have kz := HB1.out.blk.free; clear hr ht; have HM := Lib.hid (mark_any HB1.out.rd 114); rw [HD.out, HQ.out, HC114.out] at HM)
  | (go_at_call 100; refine HM.out.mono ?_; rintro e w2 ⟨ht, v2, x2, rfl, hv, hx2, hr⟩; have hv : v2 = .int .i64 n := hv; subst hv; have HB2 := Lib.hid (Bx.call HB1.out hr ht (by decide)); have HX2 := Lib.hid hx2; have m0 := HB2.out.blk.cells 0; have m1 := HB2.out.blk.cells 1; have m2 := HB2.out.blk.cells 2; have m3 := HB2.out.blk.cells 3; have mz := HB2.out.blk.free; clear ht hx2 hr; have HB3 := Lib.hid (Bx.four HB2.out (by decide) (by decide) (by decide) (.int .u8 2) (.int .i64 n) (.int .i64 0) (.int .i64 0))))
 have HB4 := Lib.hid (HB3.out.on ((Below.refl _ _).drew))
 have HM2 := Lib.hid (mark_any HB4.out.rd 98)
 rw [HX2.out, HQ2.out, HC98.out] at HM2
 refine wp_region_T (fun _ => True) 11 (by kernel_rfl) trivial (fun hHeld => ?_)
 refine wpAnyT_take (i := 0) (by kernel_rfl) (by decide) rfl (by kernel_rfl) (by kernel_rfl) (by kernel_rfl) (fun _ _ _ h => h) (Or.inl ⟨by rfl, by (intro w hSw; (try dsimp only at hSw); go_simp; (try with_reducible rfl))⟩) (by assumption) ?_; (try simp only [Act.put, List.setIfInBounds_toArray, List.set_cons_zero, List.set_cons_succ])
 refine wpAnyT_take (i := 1) (by kernel_rfl) (by decide) rfl (by kernel_rfl) (by kernel_rfl) (by kernel_rfl) (fun _ _ _ h => h) (Or.inl ⟨by rfl, by (intro w hSw; (try dsimp only at hSw); go_simp; (try with_reducible rfl))⟩) (by assumption) ?_; (try simp only [Act.put, List.setIfInBounds_toArray, List.set_cons_zero, List.set_cons_succ])
 refine wpAnyT_take (i := 2) (by kernel_rfl) (by decide) rfl (by kernel_rfl) (by kernel_rfl) (by kernel_rfl) (fun _ _ _ h => h) (Or.inl ⟨by rfl, by (intro w hSw; (try dsimp only at hSw); go_simp; (try with_reducible rfl))⟩) (by assumption) ?_; (try simp only [Act.put, List.setIfInBounds_toArray, List.set_cons_zero, List.set_cons_succ])
 refine wpAnyT_take (i := 4) (by kernel_rfl) (by decide) rfl (by kernel_rfl) (by kernel_rfl) (by kernel_rfl) (fun _ _ _ h => h) (Or.inl ⟨by rfl, by (intro w hSw; (try dsimp only at hSw); go_simp; (try with_reducible rfl))⟩) (by assumption) ?_; (try simp only [Act.put, List.setIfInBounds_toArray, List.set_cons_zero, List.set_cons_succ])
 refine wpAnyT_take (i := 5) (by kernel_rfl) (by decide) rfl (by kernel_rfl) (by kernel_rfl) (by kernel_rfl) (fun _ _ _ h => h) (Or.inl ⟨by rfl, by (intro w hSw; (try dsimp only at hSw); go_simp; (try with_reducible rfl))⟩) (by assumption) ?_; (try simp only [Act.put, List.setIfInBounds_toArray, List.set_cons_zero, List.set_cons_succ])
 refine wpAnyT_take (i := 6) (by kernel_rfl) (by decide) rfl (by kernel_rfl) (by kernel_rfl) (by kernel_rfl) (fun _ _ _ h => h) (Or.inl ⟨by rfl, by (intro w hSw; (try dsimp only at hSw); go_simp; (try with_reducible rfl))⟩) (by assumption) ?_; (try simp only [Act.put, List.setIfInBounds_toArray, List.set_cons_zero, List.set_cons_succ])
 refine wpAnyT_one (i := 3) (by kernel_rfl) rfl (fun K hK => ?_)
 go_simp
 refine HM2.out.mono ?_
 rintro e w5 ⟨ht, rfl⟩
 exact ⟨rfl, HB4.out.tn.trans ht, rfl⟩
theorem rend_br2 (h : Rdr w g l x tv fv) {s : ByteArray} {t : List ByteArray} (hxs : x.xs = s :: t) (n0 : ¬ toL s = bJump) (k1 : toL s = bBranch) {n : Int} {W : List Bs} (hq : markQ 114 (t.map toL) = some (n, W)) {n2 : Int} {W2 : List Bs} (hq2 : markQ 98 W = some (n2, W2)) (hq3 : markQ 98 W2 = none) : Calls Tryz.prog 138 #[.pointer (some ⟨g, 0, none⟩)] w (RdOut w g l tv fv isEnd (none)) := by
 have HB0 := Lib.hid (Bx.new h 69 #[.int .u8 0, .int .i64 0, .int .i64 0, .int .i64 0])
 have HX := Lib.hid HB0.out.rd
 have HNX := Lib.hid hxs
 have HD : Hid (x.rest.data = t.map toL) := Lib.hid (by show (x.xs.drop 1).map toL = _; rw [hxs]; rfl)
 have c98 : ((98 : UInt8).toNat : Int) = 98 := rfl
 have c114 : ((114 : UInt8).toNat : Int) = 114 := rfl
 have HC98 := Lib.hid c98
 have HC114 := Lib.hid c114
 clear h hxs c98 c114
 have HQ := Lib.hid hq
 have HQ2 := Lib.hid hq2
 have HQ3 := Lib.hid hq3
 clear hq hq2 hq3
 have e0 : (s.toList == [106, 117, 109, 112]) = false := str_no n0
 have e1 : (s.toList == [98, 114, 97, 110, 99, 104]) = true := str_yes k1
 clear n0 k1
 go_enter Tryz.func138, Tryz.ntmps138
 go_wp2_with (first
  | (go_at_call 58; refine (word_yes HX.out HNX.out).mono ?_; rintro e w1 ⟨rfl, hr, ht⟩; have HB1 := Lib.hid (Bx.call HB0.out hr ht (by decide)); have k0 := HB1.out.blk.cells 0; have k1 := HB1.out.blk.cells 1; have k2 := HB1.out.blk.cells 2; have k3 := HB1.out.blk.cells 3; have kz := HB1.out.blk.free; clear hr ht; have HM := Lib.hid (mark_any HB1.out.rd 114); rw [HD.out, HQ.out, HC114.out] at HM)
  | (go_at_call 100; refine HM.out.mono ?_; rintro e w2 ⟨ht, v2, x2, rfl, hv, hx2, hr⟩; have hv : v2 = .int .i64 n := hv; subst hv; have HB2 := Lib.hid (Bx.call HB1.out hr ht (by decide)); have HX2 := Lib.hid hx2; have m0 := HB2.out.blk.cells 0; have m1 := HB2.out.blk.cells 1; have m2 := HB2.out.blk.cells 2; have m3 := HB2.out.blk.cells 3; have mz := HB2.out.blk.free; clear ht hx2 hr; have HB3 := Lib.hid (Bx.four HB2.out (by decide) (by decide) (by decide) (.int .u8 2) (.int .i64 n) (.int .i64 0) (.int .i64 0))))
 have HB4 := Lib.hid (HB3.out.on ((Below.refl _ _).drew))
 have HM2 := Lib.hid (mark_any HB4.out.rd 98)
 rw [HX2.out, HQ2.out, HC98.out] at HM2
 refine wp_region_T (fun _ => True) 11 (by kernel_rfl) trivial (fun hHeld => ?_)
 refine wpAnyT_take (i := 0) (by kernel_rfl) (by decide) rfl (by kernel_rfl) (by kernel_rfl) (by kernel_rfl) (fun _ _ _ h => h) (Or.inl ⟨by rfl, by (intro w hSw; (try dsimp only at hSw); go_simp; (try with_reducible rfl))⟩) (by assumption) ?_; (try simp only [Act.put, List.setIfInBounds_toArray, List.set_cons_zero, List.set_cons_succ])
 refine wpAnyT_take (i := 1) (by kernel_rfl) (by decide) rfl (by kernel_rfl) (by kernel_rfl) (by kernel_rfl) (fun _ _ _ h => h) (Or.inl ⟨by rfl, by (intro w hSw; (try dsimp only at hSw); go_simp; (try with_reducible rfl))⟩) (by assumption) ?_; (try simp only [Act.put, List.setIfInBounds_toArray, List.set_cons_zero, List.set_cons_succ])
 refine wpAnyT_take (i := 2) (by kernel_rfl) (by decide) rfl (by kernel_rfl) (by kernel_rfl) (by kernel_rfl) (fun _ _ _ h => h) (Or.inl ⟨by rfl, by (intro w hSw; (try dsimp only at hSw); go_simp; (try with_reducible rfl))⟩) (by assumption) ?_; (try simp only [Act.put, List.setIfInBounds_toArray, List.set_cons_zero, List.set_cons_succ])
 refine wpAnyT_take (i := 4) (by kernel_rfl) (by decide) rfl (by kernel_rfl) (by kernel_rfl) (by kernel_rfl) (fun _ _ _ h => h) (Or.inl ⟨by rfl, by (intro w hSw; (try dsimp only at hSw); go_simp; (try with_reducible rfl))⟩) (by assumption) ?_; (try simp only [Act.put, List.setIfInBounds_toArray, List.set_cons_zero, List.set_cons_succ])
 refine wpAnyT_take (i := 5) (by kernel_rfl) (by decide) rfl (by kernel_rfl) (by kernel_rfl) (by kernel_rfl) (fun _ _ _ h => h) (Or.inl ⟨by rfl, by (intro w hSw; (try dsimp only at hSw); go_simp; (try with_reducible rfl))⟩) (by assumption) ?_; (try simp only [Act.put, List.setIfInBounds_toArray, List.set_cons_zero, List.set_cons_succ])
 refine wpAnyT_take (i := 6) (by kernel_rfl) (by decide) rfl (by kernel_rfl) (by kernel_rfl) (by kernel_rfl) (fun _ _ _ h => h) (Or.inl ⟨by rfl, by (intro w hSw; (try dsimp only at hSw); go_simp; (try with_reducible rfl))⟩) (by assumption) ?_; (try simp only [Act.put, List.setIfInBounds_toArray, List.set_cons_zero, List.set_cons_succ])
 refine wpAnyT_one (i := 3) (by kernel_rfl) rfl (fun K hK => ?_)
 go_simp
 refine HM2.out.mono ?_
 rintro e w5 ⟨ht, v5, x5, rfl, hv, hx5, hr⟩
 have hv : v5 = .int .i64 n2 := hv
 subst hv
 have HB5 := Lib.hid (Bx.call HB4.out hr ht (by decide))
 have HX5 := Lib.hid hx5
 have r0 := HB5.out.blk.cells 0; have r1 := HB5.out.blk.cells 1; have r2 := HB5.out.blk.cells 2; have r3 := HB5.out.blk.cells 3; have rz := HB5.out.blk.free
 clear ht hx5 hr
 have HM3 := Lib.hid (mark_any HB5.out.rd 98)
 rw [HX5.out, HQ3.out, HC98.out] at HM3
 dsimp only
 refine hK.out _ _ (fun _ => trivial) (fun hH => ?_); clear hHeld hK K; have hHeld := hH (by decide); clear hH
 refine wpAnyT_take (i := 8) (by kernel_rfl) (by decide) rfl (by kernel_rfl) (by kernel_rfl) (by kernel_rfl) (fun _ _ _ h => h) (Or.inl ⟨by rfl, by (intro w hSw; (try dsimp only at hSw); go_simp; (try with_reducible rfl))⟩) (by assumption) ?_; (try simp only [Act.put, List.setIfInBounds_toArray, List.set_cons_zero, List.set_cons_succ])
 refine wpAnyT_one (i := 7) (by kernel_rfl) rfl (fun K hK => ?_)
 go_simp
 refine HM3.out.mono ?_
 rintro e w6 ⟨ht, rfl⟩
 exact ⟨rfl, HB5.out.tn.trans ht, rfl⟩
theorem rend_br (h : Rdr w g l x tv fv) {s : ByteArray} {t : List ByteArray} (hxs : x.xs = s :: t) (n0 : ¬ toL s = bJump) (k1 : toL s = bBranch) {n : Int} {W : List Bs} (hq : markQ 114 (t.map toL) = some (n, W)) {n2 : Int} {W2 : List Bs} (hq2 : markQ 98 W = some (n2, W2)) {n3 : Int} {W3 : List Bs} (hq3 : markQ 98 W2 = some (n3, W3)) : Calls Tryz.prog 138 #[.pointer (some ⟨g, 0, none⟩)] w (RdOut w g l tv fv isEnd (some (⟨2, n, n2, n3⟩, W3))) := by
 have HB0 := Lib.hid (Bx.new h 69 #[.int .u8 0, .int .i64 0, .int .i64 0, .int .i64 0])
 have HX := Lib.hid HB0.out.rd
 have HNX := Lib.hid hxs
 have HD : Hid (x.rest.data = t.map toL) := Lib.hid (by show (x.xs.drop 1).map toL = _; rw [hxs]; rfl)
 have c98 : ((98 : UInt8).toNat : Int) = 98 := rfl
 have c114 : ((114 : UInt8).toNat : Int) = 114 := rfl
 have HC98 := Lib.hid c98
 have HC114 := Lib.hid c114
 clear h hxs c98 c114
 have HQ := Lib.hid hq
 have HQ2 := Lib.hid hq2
 have HQ3 := Lib.hid hq3
 clear hq hq2 hq3
 have e0 : (s.toList == [106, 117, 109, 112]) = false := str_no n0
 have e1 : (s.toList == [98, 114, 97, 110, 99, 104]) = true := str_yes k1
 clear n0 k1
 go_enter Tryz.func138, Tryz.ntmps138
 go_wp2_with (first
  | (go_at_call 58; refine (word_yes HX.out HNX.out).mono ?_; rintro e w1 ⟨rfl, hr, ht⟩; have HB1 := Lib.hid (Bx.call HB0.out hr ht (by decide)); have k0 := HB1.out.blk.cells 0; have k1 := HB1.out.blk.cells 1; have k2 := HB1.out.blk.cells 2; have k3 := HB1.out.blk.cells 3; have kz := HB1.out.blk.free; clear hr ht; have HM := Lib.hid (mark_any HB1.out.rd 114); rw [HD.out, HQ.out, HC114.out] at HM)
  | (go_at_call 100; refine HM.out.mono ?_; rintro e w2 ⟨ht, v2, x2, rfl, hv, hx2, hr⟩; have hv : v2 = .int .i64 n := hv; subst hv; have HB2 := Lib.hid (Bx.call HB1.out hr ht (by decide)); have HX2 := Lib.hid hx2; have m0 := HB2.out.blk.cells 0; have m1 := HB2.out.blk.cells 1; have m2 := HB2.out.blk.cells 2; have m3 := HB2.out.blk.cells 3; have mz := HB2.out.blk.free; clear ht hx2 hr; have HB3 := Lib.hid (Bx.four HB2.out (by decide) (by decide) (by decide) (.int .u8 2) (.int .i64 n) (.int .i64 0) (.int .i64 0))))
 have HB4 := Lib.hid (HB3.out.on ((Below.refl _ _).drew))
 have HM2 := Lib.hid (mark_any HB4.out.rd 98)
 rw [HX2.out, HQ2.out, HC98.out] at HM2
 refine wp_region_T (fun _ => True) 11 (by kernel_rfl) trivial (fun hHeld => ?_)
 refine wpAnyT_take (i := 0) (by kernel_rfl) (by decide) rfl (by kernel_rfl) (by kernel_rfl) (by kernel_rfl) (fun _ _ _ h => h) (Or.inl ⟨by rfl, by (intro w hSw; (try dsimp only at hSw); go_simp; (try with_reducible rfl))⟩) (by assumption) ?_; (try simp only [Act.put, List.setIfInBounds_toArray, List.set_cons_zero, List.set_cons_succ])
 refine wpAnyT_take (i := 1) (by kernel_rfl) (by decide) rfl (by kernel_rfl) (by kernel_rfl) (by kernel_rfl) (fun _ _ _ h => h) (Or.inl ⟨by rfl, by (intro w hSw; (try dsimp only at hSw); go_simp; (try with_reducible rfl))⟩) (by assumption) ?_; (try simp only [Act.put, List.setIfInBounds_toArray, List.set_cons_zero, List.set_cons_succ])
 refine wpAnyT_take (i := 2) (by kernel_rfl) (by decide) rfl (by kernel_rfl) (by kernel_rfl) (by kernel_rfl) (fun _ _ _ h => h) (Or.inl ⟨by rfl, by (intro w hSw; (try dsimp only at hSw); go_simp; (try with_reducible rfl))⟩) (by assumption) ?_; (try simp only [Act.put, List.setIfInBounds_toArray, List.set_cons_zero, List.set_cons_succ])
 refine wpAnyT_take (i := 4) (by kernel_rfl) (by decide) rfl (by kernel_rfl) (by kernel_rfl) (by kernel_rfl) (fun _ _ _ h => h) (Or.inl ⟨by rfl, by (intro w hSw; (try dsimp only at hSw); go_simp; (try with_reducible rfl))⟩) (by assumption) ?_; (try simp only [Act.put, List.setIfInBounds_toArray, List.set_cons_zero, List.set_cons_succ])
 refine wpAnyT_take (i := 5) (by kernel_rfl) (by decide) rfl (by kernel_rfl) (by kernel_rfl) (by kernel_rfl) (fun _ _ _ h => h) (Or.inl ⟨by rfl, by (intro w hSw; (try dsimp only at hSw); go_simp; (try with_reducible rfl))⟩) (by assumption) ?_; (try simp only [Act.put, List.setIfInBounds_toArray, List.set_cons_zero, List.set_cons_succ])
 refine wpAnyT_take (i := 6) (by kernel_rfl) (by decide) rfl (by kernel_rfl) (by kernel_rfl) (by kernel_rfl) (fun _ _ _ h => h) (Or.inl ⟨by rfl, by (intro w hSw; (try dsimp only at hSw); go_simp; (try with_reducible rfl))⟩) (by assumption) ?_; (try simp only [Act.put, List.setIfInBounds_toArray, List.set_cons_zero, List.set_cons_succ])
 refine wpAnyT_one (i := 3) (by kernel_rfl) rfl (fun K hK => ?_)
 go_simp
 refine HM2.out.mono ?_
 rintro e w5 ⟨ht, v5, x5, rfl, hv, hx5, hr⟩
 have hv : v5 = .int .i64 n2 := hv
 subst hv
 have HB5 := Lib.hid (Bx.call HB4.out hr ht (by decide))
 have HX5 := Lib.hid hx5
 have r0 := HB5.out.blk.cells 0; have r1 := HB5.out.blk.cells 1; have r2 := HB5.out.blk.cells 2; have r3 := HB5.out.blk.cells 3; have rz := HB5.out.blk.free
 clear ht hx5 hr
 have HM3 := Lib.hid (mark_any HB5.out.rd 98)
 rw [HX5.out, HQ3.out, HC98.out] at HM3
 dsimp only
 refine hK.out _ _ (fun _ => trivial) (fun hH => ?_); clear hHeld hK K; have hHeld := hH (by decide); clear hH
 refine wpAnyT_take (i := 8) (by kernel_rfl) (by decide) rfl (by kernel_rfl) (by kernel_rfl) (by kernel_rfl) (fun _ _ _ h => h) (Or.inl ⟨by rfl, by (intro w hSw; (try dsimp only at hSw); go_simp; (try with_reducible rfl))⟩) (by assumption) ?_; (try simp only [Act.put, List.setIfInBounds_toArray, List.set_cons_zero, List.set_cons_succ])
 refine wpAnyT_one (i := 7) (by kernel_rfl) rfl (fun K hK => ?_)
 go_simp
 refine HM3.out.mono ?_
 rintro e w6 ⟨ht, v6, x6, rfl, hv, hx6, hr⟩
 have hv : v6 = .int .i64 n3 := hv
 subst hv
 have HB6 := Lib.hid (Bx.call HB5.out hr ht (by decide))
 have HX6 := Lib.hid hx6
 have s0 := HB6.out.blk.cells 0; have s1 := HB6.out.blk.cells 1; have s2 := HB6.out.blk.cells 2; have s3 := HB6.out.blk.cells 3; have sz := HB6.out.blk.free
 clear ht hx6 hr
 dsimp only
 refine hK.out _ _ (fun _ => trivial) (fun hH => ?_); clear hHeld hK K; have hHeld := hH (by decide); clear hH
 refine wpAnyT_one (i := 9) (by kernel_rfl) rfl (fun K hK => ?_)
 go_simp
 refine hK.out _ _ (fun _ => trivial) (fun hH => ?_); clear hHeld hK K; have hHeld := hH (by decide); clear hH
 refine wpAnyT_one (i := 10) (by kernel_rfl) rfl (fun K hK => ?_)
 go_simp
 refine hK.out _ _ (fun _ => trivial) (fun hH => ?_); clear hHeld hK K; have hHeld := hH (by decide); clear hH
 refine wpAnyT_one (i := 11) (by kernel_rfl) rfl (fun K hK => ?_)
 go_simp
 refine hK.out _ _ (fun e => absurd rfl e) (fun hH => ?_); refine wpAnyT_done (by kernel_rfl) ?_ _; clear hHeld hK K hH
 have HB7 := Lib.hid (Bx.put (Bx.put HB6.out (by decide) (by decide) (by decide) 2 (.int .i64 n2)) (by decide) (by decide) (by decide) 3 (.int .i64 n3))
 have HB8 := Lib.hid (HB7.out.on ((Below.refl _ _).drew))
 go_wp2_with fail
 have HE := Lib.hid (Bx.four HB7.out (by decide) (by decide) (by decide) (.int .u8 2) (.int .i64 n) (.int .i64 n2) (.int .i64 n3))
 have q0 := HE.out.blk.cells 0
 have q1 := HE.out.blk.cells 1
 have q2 := HE.out.blk.cells 2
 have q3 := HE.out.blk.cells 3
 exact bodyPost_ret (v := (PEnd.val ⟨2, n, n2, n3⟩)) (by simp [results, Tryz.results138, go_sem, PEnd.val, q0, q1, q2, q3]) rfl ⟨HE.out.tn, _, _, rfl, ⟨rfl, Nat.le_of_ble_eq_true rfl⟩, HX6.out, HE.out.rd⟩
theorem rend_any (h : Rdr w g l x tv fv) : Calls Tryz.prog 138 #[.pointer (some ⟨g, 0, none⟩)] w (RdOut w g l tv fv isEnd (endQ x.data)) := by
 cases hxs : x.xs with
 | nil =>
   rw [show x.data = [] by show x.xs.map toL = []; rw [hxs]; rfl]
   have HB0 := Lib.hid (Bx.new h 69 #[.int .u8 0, .int .i64 0, .int .i64 0, .int .i64 0])
   have HX := Lib.hid HB0.out.rd
   have HNX := Lib.hid hxs
   clear hxs h
   go_enter Tryz.func138, Tryz.ntmps138
   go_wp2_with (go_at_call 58; refine (word_no HX.out HNX.out).mono ?_; rintro e w1 ⟨rfl, rfl⟩)
   exact ⟨rfl, HB0.out.tn, rfl⟩
 | cons s t =>
   have hd : x.data = toL s :: t.map toL := by show x.xs.map toL = _; rw [hxs]; rfl
   rw [hd, endQ_cons]
   by_cases k0 : toL s = bJump
   · rw [if_pos k0]
     cases hq : markQ 98 (t.map toL) with
     | none => exact rend_jump0 h hxs k0 hq
     | some q => exact rend_jump h hxs k0 hq
   rw [if_neg k0]
   by_cases k1 : toL s = bBranch
   · rw [if_pos k1]
     cases hq : markQ 114 (t.map toL) with
     | none => exact rend_br0 h hxs k0 k1 hq
     | some q =>
       dsimp only
       cases hq2 : markQ 98 q.2 with
       | none => exact rend_br1 h hxs k0 k1 hq hq2
       | some q' =>
         dsimp only
         cases hq3 : markQ 98 q'.2 with
         | none => exact rend_br2 h hxs k0 k1 hq hq2 hq3
         | some q'' => exact rend_br h hxs k0 k1 hq hq2 hq3
   rw [if_neg k1]
   cases hq : markQ 114 (t.map toL) with
   | none => exact rend_ret0 h hxs k0 k1 hq
   | some q => exact rend_ret h hxs k0 k1 hq
end
end Go.Proofs.YtbffebcjimhapaaGreatDoor
