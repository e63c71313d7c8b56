/-
  The program's visit: a closure that calls itself.
-/
import Derived.Test.YtohoihicmmidmaaKnVisit0
namespace Go.Proofs.Ytohoihicmmidmaa
set_option linter.unusedVariables false
set_option linter.unusedSimpArgs false
open Go.Instr
open Go.ChangeShapes Go.WideShapes Go.ChangeAt Go.RowKit Kn

/-- The variables' cells, for the walk. -/
theorem KC.cells {w0 w : World} {d : Ads} {n cnt : Nat} {l : List (Int × Int)} {vs : List Value} {f : Int → Option (Int × Int)} {pl : List Nat} {vo : Value} {op : List Nat} {va : Value} {rows : List Value} {all : List (List Nat)} (h : KC w0 w d n l vs cnt f pl vo op va rows all) :
    w.cell? ⟨d.gk, 0, none⟩ = some (.map (some d.M)) ∧ w.cell? ⟨d.go, 0, none⟩ = some vo ∧ w.cell? ⟨d.gt, 0, none⟩ = some (.slice (some ⟨d.T, 0, none⟩) n n) ∧ w.cell? ⟨d.gv, 0, none⟩ = some (.func (.func 31) #[] #[.pointer (some ⟨d.gk, 0, none⟩), .pointer (some ⟨d.go, 0, none⟩), .pointer (some ⟨d.gt, 0, none⟩), .pointer (some ⟨d.gv, 0, none⟩), .pointer (some ⟨d.ga, 0, none⟩), .pointer (some ⟨d.gp, 0, none⟩), .pointer (some ⟨d.gn, 0, none⟩)]) ∧
    w.cell? ⟨d.ga, 0, none⟩ = some va ∧ w.cell? ⟨d.gp, 0, none⟩ = some (.slice (some ⟨d.P, 0, none⟩) n n) ∧ w.cell? ⟨d.gn, 0, none⟩ = some (.int .i64 (n : Int)) ∧ w.frozen? ⟨d.go, 0, none⟩ = false ∧ w.frozen? ⟨d.ga, 0, none⟩ = false :=
  ⟨h.fix.fk.cells 0, h.cellO.cells 0, h.fix.ft.cells 0, h.fix.fv.cells 0, h.cellA.cells 0, h.fix.fp.cells 0, h.fix.fn.cells 0, h.cellO.free 0, h.cellA.free 0⟩
theorem OwnInts.spot0 {w : World} {lo c n : Nat} {A : Option Addr} {xs : List Int} (h : OwnInts w lo (.slice A n c) xs) (hn : xs.length = n) (h0 : 0 < n) :
    ∃ g, A = some ⟨g, 0, none⟩ ∧ n ≤ c ∧ c ≤ maxLen ∧ ∀ j, j < n → w.cell? ⟨g, j, none⟩ = some (.int .i64 (xs.getD j 0)) := by
  subst hn
  obtain ⟨A', c', hv, hh, hi⟩ := h.full
  injection hv with e1 _ e3
  subst e1 e3
  rcases h.2 with ⟨h1, h2⟩ | ⟨g, cap, cur, h1, h2, h3, h4⟩
  · omega
  · injection h1 with e1 _ e3
    subst e1
    refine ⟨g, rfl, hh.fit, hh.cap, fun j hj => ?_⟩
    obtain ⟨b, off, x, e, hc, HX⟩ := hi.cell hj
    injection e with e
    injection e with e1 e2 _
    subst e1 e2
    rw [Nat.zero_add] at hc
    rw [hc, HX.out]
theorem all_few : ∀ (l : List (List Nat)), (∀ A ∈ l, A ≠ []) → l.length ≤ l.flatten.length
  | [], _ => Nat.le_refl _
  | A :: r, h => by
    have h1 := all_few r (fun B hB => h B (by simp [hB]))
    have h2 : 0 < A.length := List.length_pos_iff.2 (h A (by simp))
    rw [List.flatten_cons, List.length_append, List.length_cons]
    omega
theorem index0 (w : World) (x y : Int) : (Instr.index 32 (.agg #[.int .i64 x, .int .i64 y]) (.int .i64 0)).run Try.prog w = .ok (.int .i64 x) w := by
  first | rfl | kernel_rfl | simp [Instr.index, run_underlying Try.underlying32, Result.andThen]
/-- What a visit does. -/
def VisitOk (d : Ads) (n : Nat) (l : List (Int × Int)) (vs : List Value) (w0 : World) (f : Nat) : Prop :=
  ∀ (w : World) (s : KS) (g : List Nat) (a : Nat), n ≤ s.ks.length + f → Inv (Arr l) n s g → a < n → a ∉ s.ks → (∀ x ∈ g, Kn.Way (Arr l) x a) → KSt w0 w d n l vs s →
    Calls Try.prog 31 #[.int .i64 (a : Int), .pointer (some ⟨d.gk, 0, none⟩), .pointer (some ⟨d.go, 0, none⟩), .pointer (some ⟨d.gt, 0, none⟩), .pointer (some ⟨d.gv, 0, none⟩), .pointer (some ⟨d.ga, 0, none⟩), .pointer (some ⟨d.gp, 0, none⟩), .pointer (some ⟨d.gn, 0, none⟩)] w
      fun e w' => e = .returned (.int .i64 (((visitP (toL l) n f s a).2 : Nat) : Int)) ∧ KSt w0 w' d n l vs (visitP (toL l) n f s a).1
theorem KSt.below {w0 w w' : World} {d : Ads} {n : Nat} {l : List (Int × Int)} {vs : List Value} {s : KS} (h : KSt w0 w d n l vs s) (hb : Below w.heap.size w w') : KSt w0 w' d n l vs s := by
  obtain ⟨vo, va, rows, h⟩ := h
  exact ⟨vo, va, rows, h.below hb⟩

set_option maxHeartbeats 6400000 in
theorem visit_step {d : Ads} {n : Nat} {l : List (Int × Int)} {vs : List Value} {w0 : World} {f : Nat} (hn : n ≤ 1000) (hll : l.length ≤ 10000) (hok : okG n l) (ih : VisitOk d n l vs w0 f) : VisitOk d n l vs w0 (f + 1) := by
  intro w s g a hf I ha hna hg hst
  have hE := arr_iff hok
  have hltE : ∀ a b, Arr l a b → b < n := arr_lt hok
  have hs := few_lt I.nd I.lt ha hna
  have eg := enters_visit
  obtain ⟨vo, va, rows, hkc⟩ := hst
  have HK := Lib.hid hkc
  have HI := Lib.hid I
  have HG := Lib.hid hg
  have HIH := Lib.hid ih
  have HE := Lib.hid hE
  have HLT := Lib.hid hltE
  have HNA := Lib.hid hna
  have HF := Lib.hid hf
  have HOK := Lib.hid hok
  obtain ⟨k0, o0, _⟩ := hkc.cells
  have hlen := fun ty => hkc.map.len ty
  have hol : s.op.length ≤ 1000 := by have := HI.out.sub.length_le; omega
  clear I hg ih hE hltE hna hf hkc hok
  go_enter Try.func31, Try.ntmps31
  go_wp2_with (at_mapUpdate; refine wpList_put rfl (.tmp 21) (.tmp 22) (.tmp 25) rfl d.M _ _ HK.out.map (a : Int) ((s.ks.length : Int), (s.ks.length : Int)) rfl rfl rfl (wf_nat (by omega)) ?_; intro w1 hm1 hg1; refine pause ?_)
  rw [knownF_not HNA.out] at hm1
  have hk1 := HK.out.setMap hg1 hm1
  replace hk1 := hk1.mapCongr (fun b => knownF_beg (op := s.op) HNA.out b)
  have HK1 : Hid (KC w0 w1 d n l vs (s.ks.length + 1) (knownF (s.ks ++ [a]) (s.op ++ [a])) (placeL n s.all) vo s.op va rows s.all) := Lib.hid hk1
  clear hm1 hg1 k0 o0 hlen
  obtain ⟨k1, o1, t1, v1, a1, p1, n1, fo1, fa1⟩ := hk1.cells
  have hH1 := hk1.size
  clear hk1
  refine resume ?_
  go_wp2_with (at_builtin; refine wpList_app1L rfl (.tmp 26) (.tmp 28) rfl d.H vo (nI s.op) rfl (a : Int) HK1.out.opn rfl (by rw [nI_len]; omega) hH1 ?_; intro v2 w2 hown2 hg2 hl2; refine pause ?_)
  have hb1 : Below w1.heap.size w1 (w1.alloc (.cells #[.int .i64 (a : Int)] 3)) := (Below.refl _ _).alloc (Nat.le_refl _) _
  have hka := HK1.out.below hb1
  obtain ⟨A2, c2, hv2, _⟩ := hown2.form
  have hn2 : (nI s.op ++ [(a : Int)]).length = s.op.length + 1 := by rw [List.length_append, nI_len]; rfl
  rw [hn2] at hv2
  subst hv2
  have hcO : Blk w2 d.go 25 #[vo] := hka.cellO.grown hg2 (hka.openNe hka.cellO (by decide))
  have o2 := hcO.cells 0
  have f2 := hcO.free 0
  have hk3 := hka.setOpen hg2 (op' := s.op ++ [a]) (by rw [nI_app]; exact hown2) hl2
  have HK3 := Lib.hid hk3
  clear hb1 hka hown2 hn2 hcO hg2 hl2 hk3 k1 o1 t1 v1 a1 p1 n1 fo1 fa1
  refine resume ?_
  have HS3 : Hid (KSt w0 (w2.setCell ⟨d.go, 0, none⟩ (.slice A2 (s.op.length + 1) c2)) d n l vs (begP s a)) := Lib.hid ⟨_, _, _, by
    have := HK3.out
    show KC w0 _ d n l vs (s.ks ++ [a]).length _ _ _ (s.op ++ [a]) _ _ _
    rw [List.length_append, List.length_singleton]
    exact this⟩
  obtain ⟨k3, o3, t3, v3, a3, p3, n3, fo3, fa3⟩ := HK3.out.cells
  have r3 := HK3.out.fix.tos.at_ ha
  obtain ⟨Ar, cr, hvr, hhr, hir⟩ := (HK3.out.fix.tos.own a ha).full
  rw [hvr] at r3
  rw [nI_len] at hhr r3 hvr
  have HVR := Lib.hid hvr
  have hrl := toL_len l a
  have HIR := Lib.hid hir
  have hrow : ∀ k, some k = (vs.getD a undef).ownBlock → k < d.H := fun k hk => by
    have := HK3.out.fix.rows a ha k hk.symm
    obtain ⟨p1, p2, p3, p4, p5, p6, p7, p8, p9, p10⟩ := HK3.out.ord
    omega
  have HRW := Lib.hid hrow
  have HM0 := Lib.hid (beg_mid HI.out ha HNA.out HG.out)
  clear hvr hhr hir hrow
  go_wp2_with fail
  go_loopw [11, 36] (fun lv iv wr => ∃ (k low : Nat) (t : KS), k ≤ (toL l a).length ∧ iv = .int .i64 k ∧ lv = .int .i64 low ∧ Hid (Mid (Arr l) n s g a ((toL l a).take k) t low) ∧ Hid (loopP (visitP (toL l) n f) ((toL l a).drop k) t low = loopP (visitP (toL l) n f) (toL l a) (begP s a) s.ks.length) ∧ Hid (KSt w0 wr d n l vs t)) (fun _ iv _ => (toL l a).length - (intOf iv).toNat)
  case atStart => exact ⟨0, s.ks.length, begP s a, Nat.zero_le _, rfl, rfl, by rw [List.take_zero]; exact HM0, Lib.hid (by rw [List.drop_zero]), HS3⟩
  case round =>
    obtain ⟨k, low, t, hk, rfl, rfl, HM, HL, HS⟩ := hrel
    by_cases hlt : k < (toL l a).length
    · obtain ⟨vo', va', rows', hkc⟩ := HS.out
      have hown := hkc.fix.tos.own a ha
      rw [HVR.out] at hown
      obtain ⟨A', c', e', _, hi'⟩ := hown.full
      injection e' with e1 e2 e3
      clear e2 e3
      subst e1
      obtain ⟨b, off, x, rfl, hcell, HX⟩ := hi'.cell (k := k) (by rw [nI_len]; exact hlt)
      obtain ⟨y, hy⟩ : ∃ y, (toL l a).getD k 0 = y := ⟨_, rfl⟩
      have hxy : x = (y : Int) := by rw [← HX.out, nI_at, hy]
      subst hxy
      have hgk : (toL l a)[k] = y := by rw [← hy, getD_lt _ hlt]
      have HTK : Hid ((toL l a).take (k + 1) = (toL l a).take k ++ [y]) := Lib.hid (by rw [take_succ_getD (d := 0) hlt, hy])
      have HDK : Hid ((toL l a).drop k = y :: (toL l a).drop (k + 1)) := Lib.hid (by rw [List.drop_eq_getElem_cons hlt, hgk])
      have hab : Arr l a y := (HE.out a y).2 (by rw [← hgk]; exact List.getElem_mem hlt)
      have hyn := HLT.out a y hab
      have HAB := Lib.hid hab
      obtain ⟨q1, q2, q3, q4, q5, q6, q7, q8, q9⟩ := hkc.cells
      have hb3 : ∀ cs, Below wr.heap.size wr (wr.alloc (.cells cs 32)) := fun cs => (Below.refl _ _).alloc (Nat.le_refl _) _
      have HBX := Lib.hid hb3
      clear hy hgk hab hi' hown HX hb3 k3 o3 t3 v3 a3 p3 n3 fo3 fa3 r3
      by_cases hk : y ∈ t.ks
      · have hlk := look_some true hkc.map (a := (y : Int)) (wf_nat (by omega)) (knownF_mem hk)
        by_cases ho : y ∈ t.op
        · have HMN := Lib.hid (HM.out.opened HI.out HAB.out hk ho)
          have HLN : Hid (loopP (visitP (toL l) n f) ((toL l a).drop (k + 1)) t (min low (t.ks.idxOf y)) = loopP (visitP (toL l) n f) (toL l a) (begP s a) s.ks.length) := Lib.hid (by
            have := HL.out
            rw [HDK.out, loopP, if_pos hk, if_pos ho] at this
            exact this)
          rw [if_pos ho] at hlk
          clear hk ho
          generalize t.ks.idxOf y = ix at hlk HMN HLN
          simp only [arrV, if_true] at hlk
          have hix : (0 : Int) ≤ (ix : Int) := Int.natCast_nonneg _
          go_wp2_with fail
          go_roundw
          case rel => exact ⟨k + 1, min low ix, t, by omega, by go_num, by rw [show ((min low ix : Nat) : Int) = min (low : Int) (ix : Int) from by omega], by rw [HTK.out]; exact HMN, HLN, Lib.hid (HS.out.below (HBX.out _))⟩
          case measure => simp [intOf]; omega
        · have HMN := Lib.hid (HM.out.closed hk ho)
          have HLN : Hid (loopP (visitP (toL l) n f) ((toL l a).drop (k + 1)) t low = loopP (visitP (toL l) n f) (toL l a) (begP s a) s.ks.length) := Lib.hid (by
            have := HL.out
            rw [HDK.out, loopP, if_pos hk, if_neg ho] at this
            exact this)
          rw [if_neg ho] at hlk
          clear hk ho
          generalize t.ks.idxOf y = ix at hlk
          simp only [arrV, if_true] at hlk
          go_wp2_with fail
          go_roundw
          case rel => exact ⟨k + 1, low, t, by omega, by go_num, rfl, by rw [HTK.out]; exact HMN, HLN, Lib.hid (HS.out.below (HBX.out _))⟩
          case measure => simp [intOf]; omega
      · have hlk := look_none true hkc.map (a := (y : Int)) (wf_nat (by omega)) (knownF_not hk)
        simp only [if_true] at hlk
        have hfu : n ≤ t.ks.length + f := by
          have h1 := HF.out
          have h2 := HM.out.ks.length_le
          rw [List.length_append, List.length_singleton] at h2
          omega
        have hwy : ∀ x ∈ a :: g, Kn.Way (Arr l) x y := Mid.pre (n := n) (s := s) (done := []) (t := t) (low := low) HG.out HAB.out
        have HPO := Lib.hid (visit_post HE.out HLT.out f t (a :: g) y hfu HM.out.inv hyn hk hwy)
        have HMN := Lib.hid (HM.out.new HI.out hs HAB.out hk HPO.out)
        have HLN : Hid (loopP (visitP (toL l) n f) ((toL l a).drop (k + 1)) (visitP (toL l) n f t y).1 (min low (visitP (toL l) n f t y).2) = loopP (visitP (toL l) n f) (toL l a) (begP s a) s.ks.length) := Lib.hid (by
          have := HL.out
          rw [HDK.out, loopP, if_neg hk] at this
          exact this)
        have HC := Lib.hid (HIH.out (wr.alloc (.cells #[.int .i64 0, .int .i64 0] 32)) t (a :: g) y hfu HM.out.inv hyn hk hwy (HS.out.below (HBX.out _)))
        clear hk hfu hwy HPO
        generalize visitP (toL l) n f t y = z at HMN HLN HC
        obtain ⟨t', r⟩ := z
        dsimp only at HMN HLN HC
        have q4' := ((HBX.out #[.int .i64 0, .int .i64 0]).cell (p := ⟨d.gv, 0, none⟩) (World.block_lt_of_cell? _ _ q4)).trans q4
        go_wp2_with fail
        refine HC.out.mono ?_
        rintro e w4 ⟨rfl, hst4⟩
        have HS4 := Lib.hid hst4
        clear hst4
        go_wp2_with fail
        go_roundw
        case rel => exact ⟨k + 1, min low r, t', by omega, by go_num, by rw [show ((min low r : Nat) : Int) = min (low : Int) (r : Int) from by omega], by rw [HTK.out]; exact HMN, HLN, HS4⟩
        case measure => simp [intOf]; omega
    · have hkl : k = (toL l a).length := by omega
      have HR : Hid (loopP (visitP (toL l) n f) (toL l a) (begP s a) s.ks.length = (t, low)) := Lib.hid (by
        have := HL.out
        rw [hkl, List.drop_length] at this
        exact this.symm)
      have HMM : Hid (Mid (Arr l) n s g a (toL l a) t low) := Lib.hid (by
        have := HM.out
        rwa [hkl, List.take_length] at this)
      have HTO : Hid (∀ b, Arr l a b → b ∈ toL l a) := Lib.hid (fun b hb => (HE.out a b).1 hb)
      clear HM HL hkl k3 o3 t3 v3 a3 p3 n3 fo3 fa3 r3
      by_cases hlow : low < s.ks.length
      · have HV : Hid (visitP (toL l) n (f + 1) s a = (t, low)) := Lib.hid (by
          unfold visitP
          rw [HR.out, if_pos hlow])
        go_wp2_with fail
        go_ret
        exact ⟨by rw [HV.out]; rfl, by rw [HV.out]; exact HS.out⟩
      · have HV : Hid (visitP (toL l) n (f + 1) s a = (endP t a, n)) := Lib.hid (by
          unfold visitP
          rw [HR.out, if_neg hlow])
        have HPO := Lib.hid (HMM.out.shut_end HTO.out HI.out HNA.out HG.out hlow)
        have hao : a ∈ t.op := HMM.out.op.subset (by simp)
        obtain ⟨hp1, hp2, hp3⟩ := idx_first hao
        obtain ⟨vo', va', rows', hkc⟩ := HS.out
        obtain ⟨A', c', hv', hh', hi'⟩ := hkc.opn.full
        rw [nI_len] at hv'
        subst hv'
        have HCX := index_any hh' hi' (a : Int) (t.op.idxOf a) (by rw [nI_len]; exact hp1) hp2 hp3
        rw [nI_len] at HCX hh'
        have HC := Lib.hid HCX
        clear HCX
        obtain ⟨Aa, ca, hva, hle, hcap, hnil, _⟩ := ownsRow_form hkc.arow (by omega)
        subst hva
        clear hle hcap hnil
        have HKC := Lib.hid hkc
        obtain ⟨q1, q2, q3, q4, q5, q6, q7, q8, q9⟩ := hkc.cells
        have hEP : endP t a = ⟨t.ks, t.op.take (t.op.idxOf a), t.all ++ [t.op.drop (t.op.idxOf a)]⟩ := rfl
        rw [hEP] at HPO HV
        have hopl : t.op.length ≤ 1000 := by have := HMM.out.inv.sub.length_le; have := few_of HMM.out.inv.nd HMM.out.inv.lt; omega
        obtain ⟨go, rfl, hgc, hgm, hcl⟩ := hkc.opn.spot0 (nI_len _) (by omega)
        have HCL := Lib.hid hcl
        unfold maxLen at hgm
        clear hi' hkc hp2 hp3 hao hEP hh' hcl
        generalize t.op.idxOf a = p at *
        go_wp2_with fail
        refine HC.out.mono ?_
        rintro e w5 ⟨rfl, rfl⟩
        go_wp2_with fail
        have hsl : (t.op.drop p).length = t.op.length - p := List.length_drop
        have HND := Lib.hid (HMM.out.inv.sub.nodup HMM.out.inv.nd)
        have hall : t.all.length ≤ 1000 := by
          have h1 := HMM.out.inv.fnd
          have h2 : t.all.length ≤ t.all.flatten.length := all_few t.all (fun A hA => (HMM.out.inv.knot A hA).1)
          have h3 := few_of h1 (fun a ha => HMM.out.inv.lt a ((HMM.out.inv.split a).2 (.inr ha)))
          omega
        clear q1 q2 q3 q4 q5 q6 q7 q8 q9
        go_loopw [72] (fun i wi => ∃ j : Nat, j ≤ t.op.length - p ∧ i = .int .i64 j ∧ Hid (KC w0 wi d n l vs t.ks.length (knownF t.ks (t.op.take p ++ (t.op.drop p).drop j)) (placeM n t.all ((t.op.drop p).take j)) (.slice (some ⟨go, 0, none⟩) t.op.length c') t.op (.slice Aa t.all.length ca) rows' t.all)) (fun i _ => (t.op.length - p) - (intOf i).toNat)
        case atStart => exact ⟨0, Nat.zero_le _, rfl, Lib.hid (by rw [List.drop_zero, List.take_append_drop, List.take_zero, placeM_zero]; exact HKC.out)⟩
        case round =>
          obtain ⟨j, hj, rfl, HKJ⟩ := hrel
          by_cases hlt : j < t.op.length - p
          · obtain ⟨go', hgo', _, _, hcl⟩ := HKJ.out.opn.spot0 (nI_len _) (by omega)
            injection hgo' with hgo'
            injection hgo' with hgo' _ _
            subst hgo'
            have hel := hcl (p + j) (by omega)
            obtain ⟨y, hy⟩ : ∃ y, t.op.getD (p + j) 0 = y := ⟨_, rfl⟩
            rw [nI_at, hy] at hel
            have hyg : t.op[p + j]'(by omega) = y := by rw [← hy, getD_lt _ (by omega)]
            have hyo : y ∈ t.op := by rw [← hyg]; exact List.getElem_mem _
            have hyk := HMM.out.inv.sub.subset hyo
            have hyn := HMM.out.inv.lt y hyk
            have HDJ : Hid ((t.op.drop p).drop j = y :: (t.op.drop p).drop (j + 1)) := Lib.hid (by
              rw [List.drop_eq_getElem_cons (by rw [hsl]; exact hlt), List.getElem_drop, hyg])
            have HTJ : Hid ((t.op.drop p).take (j + 1) = (t.op.drop p).take j ++ [y]) := Lib.hid (by
              rw [List.take_succ_eq_append_getElem (by rw [hsl]; exact hlt), List.getElem_drop, hyg])
            have hnn : y ∉ t.op.take p ∧ y ∉ (t.op.drop p).drop (j + 1) := by
              have h1 := HND.out
              rw [← List.take_append_drop p t.op, List.nodup_append] at h1
              have h2 : y ∈ t.op.drop p := List.mem_of_mem_drop (i := j) (by rw [HDJ.out]; simp)
              refine ⟨fun h => h1.2.2 y h y h2 rfl, fun h => ?_⟩
              have h3 := h1.2.1
              rw [← List.take_append_drop j (t.op.drop p), List.nodup_append, HDJ.out] at h3
              exact (List.nodup_cons.1 h3.2.1).1 h
            have HKP := Lib.hid (HKJ.out.setPlace y t.all.length)
            obtain ⟨q1, q2, q3, q4, q5, q6, q7, q8, q9⟩ := HKJ.out.cells
            have pc := HKJ.out.place.at_ (i := y) (by rw [nI_len, placeM_len]; exact hyn)
            have pf := HKJ.out.place.free y
            obtain ⟨r1, _⟩ := HKP.out.cells
            have hlk := look_some false HKP.out.map (a := (y : Int)) (wf_nat (by omega)) (knownF_mem hyk)
            obtain ⟨fl, hfl⟩ : ∃ fl : Int, (if y ∈ t.op.take p ++ (t.op.drop p).drop j then ((t.ks.idxOf y : Nat) : Int) else -1) = fl := ⟨_, rfl⟩
            rw [hfl] at hlk
            simp only [arrV, Bool.false_eq_true, if_false] at hlk
            have hi0 := index0
            clear hfl
            have HYK := Lib.hid hyk
            have HNN := Lib.hid hnn
            clear hy hyg hyo hyk hnn hcl
            go_wp2_with (at_mapUpdate; refine wpList_put rfl (.tmp 81) (.tmp 82) (.tmp 87) rfl d.M _ _ HKP.out.map (y : Int) ((t.ks.idxOf y : Int), (-1 : Int)) rfl rfl rfl (wf_nat (by omega)) ?_; intro w6 hm6 hg6; refine pause ?_)
            rw [knownF_mem HYK.out] at hm6
            have hk6 := (HKP.out.setMap hg6 hm6).mapCongr (f' := knownF t.ks (t.op.take p ++ (t.op.drop p).drop (j + 1))) (fun c => by
              rw [HDJ.out]; exact knownF_shut HYK.out HNN.out.1 HNN.out.2 c)
            have HK6 := Lib.hid (hk6.placeCongr (placeM_step t.all _ hyn))
            clear hm6 hg6 hk6
            refine resume ?_
            go_wp2_with fail
            go_roundw
            case rel => exact ⟨j + 1, by omega, by go_num, Lib.hid (by rw [HTJ.out]; exact HK6.out)⟩
            case measure => simp [intOf]; omega
          · have hjm : j = t.op.length - p := by omega
            have hkj := HKJ.out
            have e1 : (t.op.drop p).take (t.op.length - p) = t.op.drop p := List.take_of_length_le (by rw [hsl]; exact Nat.le_refl _)
            have e2 : (t.op.drop p).drop (t.op.length - p) = [] := List.drop_eq_nil_of_le (by rw [hsl]; exact Nat.le_refl _)
            rw [hjm, e1, e2, List.append_nil] at hkj
            clear e1 e2
            have hk7 := hkj.placeCongr (placeM_end HPO.out.inv.fnd)
            have HK7 := Lib.hid hk7
            obtain ⟨q1, q2, q3, q4, q5, q6, q7, q8, q9⟩ := hk7.cells
            obtain ⟨go', hgo', hcle, hcmx, hcl⟩ := hk7.opn.spot0 (nI_len _) (by omega)
            injection hgo' with hgo'
            injection hgo' with hgo' _ _
            subst hgo'
            have hgl : go < wr.heap.size := (hk7.opn.blockLt go rfl).2
            have hHs := hk7.size
            have hSI : IntsAt wr 0 wr.heap.size (some ⟨go, p, none⟩) (nI (t.op.drop p)) := fun hpos => ⟨go, p, rfl, Nat.zero_le _, hgl, fun i hi j hj => by
              rw [nI_len, hsl] at hi
              obtain rfl : j = 0 := by omega
              rw [Nat.mul_one, Nat.add_zero, hcl (p + i) (by omega), nI_at]
              show _ = some (Value.int .i64 ((nI (t.op.drop p)).getD i 0))
              rw [nI_at, List.getD_eq_getElem?_getD, List.getD_eq_getElem?_getD, List.getElem?_drop]⟩
            have HCLN := Lib.hid (fun (W : World) (hb : Below wr.heap.size wr W) => clone_any (w := W) (c := c' - p) (xs := nI (t.op.drop p)) ⟨by rw [nI_len, hsl]; omega, by unfold maxLen; omega, (fun h => by cases h)⟩ (hSI.keep hb) hb.size (by rw [nI_len, hsl]; omega))
            rw [nI_len, hsl] at HCLN
            have hpl : p ≤ t.op.length := by omega
            have hcp : ¬ c' = p := by omega
            clear hkj hk7 hcl hSI hjm HKJ
            go_wp2_with fail
            refine wp_region_T (fun w' => w'.cell? ⟨d.ga, 0, none⟩ = some (.slice Aa t.all.length ca) ∧ w'.cell? ⟨d.go, 0, none⟩ = some (.slice (some ⟨go, 0, none⟩) t.op.length c')) 7 (by kernel_rfl) ⟨q5, q2⟩ (fun hHeld => ?_)
            refine wpAnyT_take (i := 0) (by kernel_rfl) (by decide) rfl (by kernel_rfl) (by kernel_rfl) (by kernel_rfl) (fun _ _ _ h => h) (Or.inl ⟨by rfl, by (intro w hSw; (try dsimp only at hSw); go_simp; (try with_reducible rfl))⟩) (by assumption) ?_; (try simp only [Act.put, List.setIfInBounds_toArray, List.set_cons_zero, List.set_cons_succ])
            refine wpAnyT_take (i := 1) (by kernel_rfl) (by decide) rfl (by kernel_rfl) (by kernel_rfl) (by kernel_rfl) (fun _ _ _ h => h) (Or.inl ⟨by rfl, by (intro w hSw; (try dsimp only at hSw); go_simp; (try with_reducible rfl))⟩) (by assumption) ?_; (try simp only [Act.put, List.setIfInBounds_toArray, List.set_cons_zero, List.set_cons_succ])
            refine wpAnyT_take (i := 2) (by kernel_rfl) (by decide) rfl (by kernel_rfl) (by kernel_rfl) (by kernel_rfl) (fun _ _ _ h => h) (Or.inl ⟨by rfl, by (intro w hSw; (try dsimp only at hSw); go_simp; (try with_reducible rfl))⟩) (by assumption) ?_; (try simp only [Act.put, List.setIfInBounds_toArray, List.set_cons_zero, List.set_cons_succ])
            refine wpAnyT_take (i := 3) (by kernel_rfl) (by decide) rfl (by kernel_rfl) (by kernel_rfl) (by kernel_rfl) (fun _ _ _ h => h) (Or.inl ⟨by rfl, by (intro w hSw; (try dsimp only at hSw); go_simp; (try with_reducible rfl))⟩) (by assumption) ?_; (try simp only [Act.put, List.setIfInBounds_toArray, List.set_cons_zero, List.set_cons_succ])
            refine wpAnyT_one (i := 4) (by kernel_rfl) rfl (fun K hK => ?_)
            go_simp
            have hbD : Below wr.heap.size wr wr.drew := (Below.refl _ _).drew
            refine (HCLN.out _ hbD).mono ?_
            rintro e w8 ⟨vc, rfl, hownc, hbc⟩
            have hb8 : Below wr.heap.size wr w8 := hbD.trans hbc
            have HK8 := Lib.hid (HK7.out.below hb8)
            obtain ⟨Ac, cc, hvc, _⟩ := hownc.form
            have hnc : (nI (t.op.drop p)).length = t.op.length - p := by rw [nI_len, hsl]
            rw [hnc] at hvc
            subst hvc
            have HOC := Lib.hid hownc
            have HB8 := Lib.hid hb8
            obtain ⟨r1, r2, r3, r4, r5, r6, r7, r8, r9⟩ := HK8.out.cells
            clear hb8 hbc hownc hnc hbD q1 q2 q3 q4 q5 q6 q7 q8 q9
            refine hK.out _ _ (fun _ => ⟨r5, r2⟩) (fun hH => ?_); clear hHeld hK K; have hHeld := hH (by decide); clear hH
            refine wpAnyT_one (i := 5) (by kernel_rfl) rfl (fun K hK => ?_)
            go_simp
            have hb9 : Below w8.heap.size w8 (w8.alloc (.cells #[.slice Ac (t.op.length - p) cc] 25)) := (Below.refl _ _).alloc (Nat.le_refl _) _
            have HK9 := Lib.hid (HK8.out.below hb9)
            have HOC9 := Lib.hid (HOC.out.keep hb9)
            have HB9 := Lib.hid hb9
            have s5 : (w8.alloc (.cells #[.slice Ac (t.op.length - p) cc] 25)).cell? ⟨d.ga, 0, none⟩ = some (.slice Aa t.all.length ca) := HK9.out.cells.2.2.2.2.1
            have s2 : (w8.alloc (.cells #[.slice Ac (t.op.length - p) cc] 25)).cell? ⟨d.go, 0, none⟩ = some (.slice (some ⟨go, 0, none⟩) t.op.length c') := HK9.out.cells.2.1
            clear hb9 r1 r2 r3 r4 r5 r6 r7 r8 r9
            refine hK.out _ _ (fun _ => ⟨s5, s2⟩) (fun hH => ?_); clear hHeld hK K; have hHeld := hH (by decide); clear hH
            refine wpAnyT_one (i := 6) (by kernel_rfl) rfl (fun K hK => ?_)
            refine step_appR rfl (.tmp 89) (.tmp 94) rfl d.H _ _ _ (by rfl) (.slice Ac (t.op.length - p) cc) rfl HK9.out.arow w8.heap.size (by rfl) (Blk.new w8 _ _) (by omega) HK9.out.size ?_
            rintro v10 w10 hrow10 hg10 ⟨g10, c10, rfl⟩
            have hcA : Blk w10 d.ga 43 #[.slice Aa t.all.length ca] := HK9.out.cellA.grown hg10 (fun e => by
              have h1 := own_base HK9.out.arow _ e
              obtain ⟨p1, p2, p3, p4, p5, p6, p7, p8, p9, p10⟩ := HK9.out.ord
              omega)
            have hcO : Blk w10 d.go 25 #[.slice (some ⟨go, 0, none⟩) t.op.length c'] := HK9.out.cellO.grown hg10 (fun e => by
              have h1 := own_base HK9.out.arow _ e
              obtain ⟨p1, p2, p3, p4, p5, p6, p7, p8, p9, p10⟩ := HK9.out.ord
              omega)
            have u5 : w10.cell? ⟨d.ga, 0, none⟩ = some (.slice Aa t.all.length ca) := hcA.cells 0
            have u2 : w10.cell? ⟨d.go, 0, none⟩ = some (.slice (some ⟨go, 0, none⟩) t.op.length c') := hcO.cells 0
            have u9 := hcA.free 0
            have hHw : d.H ≤ wr.drew.heap.size := by show d.H ≤ wr.heap.size; exact hHs
            have HK11 := Lib.hid (HK9.out.setAll hg10 (va' := .slice (some ⟨g10, 0, none⟩) (t.all.length + 1) c10) (A := t.op.drop p) hrow10 (HOC9.out.more hHw) (fun k hk e => by
              have h1 := (HOC9.out.blockLt k hk).1
              have h2 : go = k := Option.some.inj e
              have h3 : wr.heap.size ≤ k := h1
              omega))
            clear hcA hcO hrow10 hg10 s5 s2
            refine hK.out _ _ (fun _ => ⟨u5, u2⟩) (fun hH => ?_); clear hHeld hK K; have hHeld := hH (by decide); clear hH
            refine wpAnyT_one (i := 7) (by kernel_rfl) rfl (fun K hK => ?_)
            go_simp
            refine hK.out _ _ (fun e => absurd rfl e) (fun hH => ?_); refine wpAnyT_done (by kernel_rfl) ?_ _; clear hHeld hK K hH
            clear u5 u2 u9
            have HKE := Lib.hid (HK11.out.setOpen (World.grownBy.refl _ _) (vo' := .slice (some ⟨go, 0, none⟩) p c') (op' := t.op.take p) (by
              have h1 : OwnInts _ d.H (.slice (some ⟨go, 0, none⟩) t.op.length c') (nI t.op) := HK11.out.opn
              rw [← nI_len t.op] at h1
              have h2 := h1.cut (k := p) (by rw [nI_len]; omega) (by simp)
              have h3 : nI (t.op.take p) = (nI t.op).take p := by simp [nI, List.map_take]
              rw [h3]
              exact h2) (fun k hk => .inl hk))
            obtain ⟨x1, x2, x3, x4, x5, x6, x7, x8, x9⟩ := HK11.out.cells
            have y7 := HKE.out.cells.2.2.2.2.2.2.1
            go_wp2_with fail
            go_ret
            exact ⟨by rw [HV.out]; rfl, by
              rw [HV.out]
              exact ⟨_, _, _, HKE.out⟩⟩
end Go.Proofs.Ytohoihicmmidmaa
