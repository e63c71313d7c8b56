/-
  The program's Ranks.
-/
import Derived.Test.YtohoihicmmidmaaKnProg1
namespace Go.Proofs.Ytohoihicmmidmaa
set_option linter.unusedVariables false
set_option linter.unusedSimpArgs false
open Go.ChangeShapes Go.WideShapes Go.ChangeAt Go.RowKit Kn

/-- No rank is greater than its place. -/
def Bd (rk : List Nat) : Prop := ∀ j, rk.getD j 0 ≤ j
theorem Bd.step {rk : List Nat} (h : Bd rk) {k q : Nat} (hk : k < rk.length) (hq : q < k) : Bd (rk.set k (max (rk.getD k 0) (rk.getD q 0 + 1))) := by
  intro j
  rw [getD_set hk]
  split
  · rename_i e; subst e
    have h1 := h j
    have h2 := h q
    omega
  · exact h j
theorem Bd.zero (m : Nat) : Bd (List.replicate m 0) := by
  intro j
  rw [List.getD_eq_getElem?_getD, List.getElem?_replicate]
  split <;> simp
set_option maxHeartbeats 6400000 in
theorem ranks_any {w : World} {A : Option Addr} {c : Nat} {l : List (Int × Int)} (hx : GIn w A c l) (n : Int) :
    Calls Try.prog 12 #[.int .i64 n, .slice A l.length c] w (SomeIntsE (ranksG n l) (checkG n l) w) := by
  have HX := Lib.hid hx
  clear hx
  obtain ⟨e0, he0⟩ : ∃ e0, checkG n l = e0 := ⟨_, rfl⟩
  have HC := Lib.hid (check_any HX.out n)
  rw [he0] at HC ⊢
  by_cases h0 : e0 = 0
  · subst h0
    obtain ⟨hn0, hn, hl, hok⟩ := check_ok he0
    obtain ⟨m, rfl⟩ := Int.eq_ofNat_of_zero_le hn0
    rw [Int.toNat_natCast] at hok
    have HG : Hid (ranksG (m : Int) l = nI (ranksL (Arr l) m)) := Lib.hid (by unfold ranksG; rw [if_pos he0, Int.toNat_natCast])
    have HOK := Lib.hid hok
    have hm : m ≤ 1000 := by omega
    have hmk := make_ints m (by omega)
    clear he0 hok
    go_enter Try.func12, Try.ntmps12
    go_wp2_with fail
    refine HC.out.mono ?_
    rintro e w1 ⟨rfl, hb1⟩
    have HB1 := Lib.hid hb1
    have HA := Lib.hid (knots_any (HX.out.on hb1) hm hl HOK.out)
    clear hb1
    go_wp2_with fail
    refine HA.out.mono ?_
    rintro e w2 ⟨va, P, rows, rfl, hP, hpl, hal, hb2⟩
    have HK := Lib.hid (knots_of HOK.out)
    have HRK := Lib.hid (ranks_is (arr_iff HOK.out) HK.out)
    generalize (knotsP (toL l) m m).all = all at *
    obtain ⟨Aa, ca, rfl, hha⟩ := hal.hdr
    have HAL := Lib.hid hal
    have HPL := Lib.hid hpl
    have HB2 := Lib.hid (HB1.out.trans (hb2.mono HB1.out.size))
    have hall := knots_few HK.out
    have HOU := Lib.hid (out_any (HX.out.on HB2.out) hm hl HOK.out)
    clear hal hb2 hpl hha
    go_wp2_with fail
    refine HOU.out.mono ?_
    rintro e w3 ⟨rfl, ⟨vs, htos⟩, hb3⟩
    have HTO := Lib.hid htos
    have HB3 := Lib.hid (HB2.out.trans (hb3.mono HB2.out.size))
    have HAL3 := Lib.hid (HAL.out.keep hb3)
    have HPL3 := Lib.hid (HPL.out.beneath hb3)
    clear htos hb3
    have hmk2 := make_ints all.length (by omega)
    have HMK := Lib.hid (IBlk.made w3 all.length)
    have HBK : Hid (Below w3.heap.size w3 (w3.alloc (.cells (madeCells #[.int .i64 0] all.length) 3))) := Lib.hid ((Below.refl _ _).alloc (Nat.le_refl _) _)
    have HZ : Hid (IBlk (w3.alloc (.cells (madeCells #[.int .i64 0] all.length) 3)) w3.heap.size (nI (List.replicate all.length 0))) := Lib.hid (by
      rw [show nI (List.replicate all.length 0) = List.replicate all.length (0 : Int) by simp [nI]]; exact HMK.out)
    obtain ⟨ft, hft⟩ : ∃ ft : Nat → List Nat, toL l = ft := ⟨_, rfl⟩
    obtain ⟨pl, hpl⟩ : ∃ pl : Nat → Nat, placeOf all = pl := ⟨_, rfl⟩
    have HFT := Lib.hid hft
    have HPE := Lib.hid hpl
    rw [hft] at HTO
    -- what the arrows of a knot's points are
    have HIN : Hid (∀ k, k < all.length → ∀ a ∈ all.getD k [], a < m ∧ ∀ b ∈ ft a, b < m ∧ pl b ≤ k) := Lib.hid (fun k hk a ha => by
      have hA : all[k]? = some (all.getD k []) := by rw [List.getD_eq_getElem?_getD, List.getElem?_eq_getElem hk]; rfl
      have h1 : a < m := (HK.out.mem a).1 (List.mem_flatten.2 ⟨_, getD_mem hA, ha⟩)
      have h2 : placeOf all a = k := place_is HK.out.nd hA ha
      refine ⟨h1, fun b hb => ?_⟩
      have h3 := HK.out.arrow h1 ((arr_iff HOK.out a b).2 (by rw [HFT.out]; exact hb))
      rw [h2, HPE.out] at h3
      exact h3)
    have HPM : Hid (∀ b, b < m → pl b < all.length) := Lib.hid (fun b hb => by rw [← HPE.out]; exact HK.out.lt hb)
    have HPC : Hid (∀ b, b < m → (placeL m all).getD b 0 = pl b) := Lib.hid (fun b hb => by rw [placeL_at _ hb, HPE.out])
    clear hft hpl
    have hTl := HTO.out.blk.lt
    go_wp2_with fail
    clear hmk2
    go_loopw [39] (fun i wr => ∃ (k : Nat) (rk : List Nat), k ≤ all.length ∧ i = .int .i64 k ∧ IBlk wr w3.heap.size (nI rk) ∧ rk.length = all.length ∧ Bd rk ∧ Hid (allR ft pl k (all.drop k) rk = allR ft pl 0 all (List.replicate all.length 0)) ∧ Below w3.heap.size w3 wr) (fun i _ => all.length - (intOf i).toNat)
    case atStart => exact ⟨0, _, Nat.zero_le _, rfl, HZ.out, by simp, Bd.zero _, Lib.hid (by rw [List.drop_zero]), HBK.out⟩
    case round =>
      obtain ⟨k, rk, hk, rfl, hbk, hrl, hbd, HR, hbel⟩ := hrel
      have HBK1 := Lib.hid hbk
      have HBD := Lib.hid hbd
      have HBE := Lib.hid hbel
      have HRL := Lib.hid hrl
      clear hbk hbd hbel hrl
      by_cases hlt : k < all.length
      · obtain ⟨ga, A', c', rfl, cg3, hh', hi'⟩ := HAL3.out.elem hlt
        obtain ⟨A0, hA0⟩ : ∃ A0, all.getD k [] = A0 := ⟨_, rfl⟩
        have HI := Lib.hid (HIN.out k hlt)
        rw [hA0] at cg3 hh' hi' HI
        have HDK : Hid (all.drop k = A0 :: all.drop (k + 1)) := Lib.hid (by rw [List.drop_eq_getElem_cons hlt, ← hA0, getD_lt _ hlt])
        have hA0l : A0.length ≤ 9223372036854775807 := hh'.le
        have HII := Lib.hid hi'
        have cg := (HBE.out.cell (p := ⟨ga, k, none⟩) (World.block_lt_of_cell? _ _ cg3)).trans cg3
        have HLT := Lib.hid hlt
        clear hA0 hh' hi' cg3
        go_wp2_with fail
        go_loopw [46] (fun i wj => ∃ (j : Nat) (rk' : List Nat), j ≤ A0.length ∧ i = .int .i64 j ∧ IBlk wj w3.heap.size (nI rk') ∧ rk'.length = all.length ∧ Bd rk' ∧ Hid (ptsR ft pl k (A0.drop j) rk' = ptsR ft pl k A0 rk) ∧ Below w3.heap.size w3 wj) (fun i _ => A0.length - (intOf i).toNat)
        case atStart => exact ⟨0, rk, Nat.zero_le _, rfl, HBK1.out, HRL.out, HBD.out, Lib.hid (by rw [List.drop_zero]), HBE.out⟩
        case round =>
          clear HBK1 HBD HBE HRL cg
          obtain ⟨j, rk', hj, rfl, hbk, hrl, hbd, HRj, hbel⟩ := hrel
          have HBK1 := Lib.hid hbk
          have HBD := Lib.hid hbd
          have HBE := Lib.hid hbel
          have HRL := Lib.hid hrl
          clear hbk hbd hbel hrl
          by_cases hltj : j < A0.length
          · obtain ⟨ba, oa, xa, rfl, ha3, HXA⟩ := HII.out.cell (k := j) (by rw [nI_len]; exact hltj)
            obtain ⟨a, ha⟩ : ∃ a, A0.getD j 0 = a := ⟨_, rfl⟩
            have hxa : xa = (a : Int) := by rw [← HXA.out, nI_at, ha]
            subst hxa
            have hag : A0[j] = a := by rw [← ha, getD_lt _ hltj]
            have ham : a ∈ A0 := by rw [← hag]; exact List.getElem_mem _
            obtain ⟨han, hab⟩ := HI.out a ham
            have HDJ : Hid (A0.drop j = a :: A0.drop (j + 1)) := Lib.hid (by rw [List.drop_eq_getElem_cons hltj, hag])
            have HAB := Lib.hid hab
            have ca := (HBE.out.cell (p := ⟨ba, oa + j, none⟩) (World.block_lt_of_cell? _ _ ha3)).trans ha3
            have tc := (HTO.out.at_ han)
            have tca := (HBE.out.cell (p := ⟨w2.heap.size, a, none⟩) (World.block_lt_of_cell? _ _ tc)).trans tc
            obtain ⟨Ar, cr, hvr, hhr, hir⟩ := (HTO.out.own a han).full
            rw [nI_len] at hvr hhr
            rw [hvr] at tca
            have hrl2 := hhr.le
            have HIR := Lib.hid hir
            clear ha hag ham hab ha3 HXA tc hvr hhr hir
            go_wp2_with fail
            go_loopw [55] (fun i wq => ∃ (q : Nat) (rk2 : List Nat), q ≤ (ft a).length ∧ i = .int .i64 q ∧ IBlk wq w3.heap.size (nI rk2) ∧ rk2.length = all.length ∧ Bd rk2 ∧ Hid (arrR pl k ((ft a).drop q) rk2 = arrR pl k (ft a) rk') ∧ Below w3.heap.size w3 wq) (fun i _ => (ft a).length - (intOf i).toNat)
            case atStart => exact ⟨0, rk', Nat.zero_le _, rfl, HBK1.out, HRL.out, HBD.out, Lib.hid (by rw [List.drop_zero]), HBE.out⟩
            case round =>
              clear HBK1 HBD HBE HRL ca tca
              obtain ⟨q, rk2, hq, rfl, hbk, hrl, hbd, HRq, hbel⟩ := hrel
              have HBK1 := Lib.hid hbk
              have HBD := Lib.hid hbd
              have HBE := Lib.hid hbel
              have HRL := Lib.hid hrl
              clear hbk hbd hbel hrl
              by_cases hltq : q < (ft a).length
              · obtain ⟨bb, ob, xb, rfl, hb3, HXB⟩ := HIR.out.cell (k := q) (by rw [nI_len]; exact hltq)
                obtain ⟨b, hb⟩ : ∃ b, (ft a).getD q 0 = b := ⟨_, rfl⟩
                have hxb : xb = (b : Int) := by rw [← HXB.out, nI_at, hb]
                subst hxb
                have hbg : (ft a)[q] = b := by rw [← hb, getD_lt _ hltq]
                have hbm : b ∈ ft a := by rw [← hbg]; exact List.getElem_mem _
                obtain ⟨hbn, hbk⟩ := HAB.out b hbm
                have HDQ : Hid ((ft a).drop q = b :: (ft a).drop (q + 1)) := Lib.hid (by rw [List.drop_eq_getElem_cons hltq, hbg])
                have cb := (HBE.out.cell (p := ⟨bb, ob + q, none⟩) (World.block_lt_of_cell? _ _ hb3)).trans hb3
                have cp := (HPL3.out.beneath HBE.out).at_ (i := b) (by rw [nI_len, placeL_len]; exact hbn)
                rw [nI_at, HPC.out b hbn] at cp
                have hpb := HPM.out b hbn
                have r1 := HBK1.out.at_ (i := k) (by rw [nI_len, HRL.out]; exact HLT.out)
                have r2 := HBK1.out.at_ (i := pl b) (by rw [nI_len, HRL.out]; exact hpb)
                have rf := HBK1.out.free k
                rw [nI_at] at r1 r2
                have hbd1 := HBD.out (pl b)
                have HRA : Hid (arrR pl k ((ft a).drop q) rk2 = arrR pl k ((ft a).drop (q + 1)) (if pl b ≠ k then rk2.set k (max (rk2.getD k 0) (rk2.getD (pl b) 0 + 1)) else rk2)) := Lib.hid (by rw [HDQ.out, arrR])
                have HST := Lib.hid (fun (h : pl b < k) => HBD.out.step (k := k) (q := pl b) (by rw [HRL.out]; exact HLT.out) h)
                clear hb hbg hbm hb3 HXB
                generalize rk2.getD k 0 = rkk at *
                generalize rk2.getD (pl b) 0 = rkb at *
                generalize pl b = pb at *
                by_cases hpk : pb = k
                · subst hpk
                  go_wp2_with fail
                  go_roundw
                  case rel => exact ⟨q + 1, rk2, by omega, by go_num, HBK1.out, HRL.out, HBD.out, Lib.hid (by rw [← HRq.out, HRA.out, if_neg (by simp)]), HBE.out⟩
                  case measure => simp [intOf]; omega
                · have hne : ((pb : Int) == (k : Int)) = false := by simp; omega
                  have hne2 : ((pb : Int) != (k : Int)) = true := by simp; omega
                  have HPU : Hid (IBlk (wr.setCell ⟨w3.heap.size, k, none⟩ (.int .i64 (max (rkk : Int) ((rkb : Int) + 1)))) w3.heap.size (nI (rk2.set k (max rkk (rkb + 1))))) := Lib.hid (by
                    rw [← nI_set]
                    have := HBK1.out.put k (max (rkk : Int) ((rkb : Int) + 1))
                    rw [show ((max rkk (rkb + 1) : Nat) : Int) = max (rkk : Int) ((rkb : Int) + 1) from by omega]
                    exact this)
                  have HQ : Hid (pb < k) := Lib.hid (by omega)
                  have HNP := Lib.hid hpk
                  have hk0 : (0 : Int) ≤ (k : Int) := Int.natCast_nonneg _
                  have hk1 : (k : Int) < (all.length : Int) := by have := HLT.out; omega
                  have hb0 : (0 : Int) ≤ (b : Int) := Int.natCast_nonneg _
                  have hb1 : (b : Int) < (m : Int) := by omega
                  have hp0 : (0 : Int) ≤ (pb : Int) := Int.natCast_nonneg _
                  have hp1 : (pb : Int) < (all.length : Int) := by omega
                  clear hpk
                  go_wp2_with fail
                  refine wp_region_T (fun w' => w'.cell? ⟨w3.heap.size, k, none⟩ = some (.int .i64 (rkk : Int)) ∧ w'.cell? ⟨w3.heap.size, pb, none⟩ = some (.int .i64 (rkb : Int)) ∧ w'.cell? ⟨P, b, none⟩ = some (.int .i64 (pb : Int))) 16 (by kernel_rfl) ⟨r1, r2, cp⟩ (fun hHeld => ?_)
                  refine wpAnyT_take (i := 0) (by kernel_rfl) (by decide) rfl (by kernel_rfl) (by kernel_rfl) (by kernel_rfl) (fun _ _ _ h => h) (Or.inl ⟨by rfl, by (intro w hSw; (try dsimp only at hSw); go_simp; (try with_reducible rfl))⟩) (by assumption) ?_; (try simp only [Act.put, List.setIfInBounds_toArray, List.set_cons_zero, List.set_cons_succ])
                  refine wpAnyT_take (i := 1) (by kernel_rfl) (by decide) rfl (by kernel_rfl) (by kernel_rfl) (by kernel_rfl) (fun _ _ _ h => h) (Or.inl ⟨by rfl, by (intro w hSw; (try dsimp only at hSw); go_simp; (try with_reducible rfl))⟩) (by assumption) ?_; (try simp only [Act.put, List.setIfInBounds_toArray, List.set_cons_zero, List.set_cons_succ])
                  refine wpAnyT_take (i := 2) (by kernel_rfl) (by decide) rfl (by kernel_rfl) (by kernel_rfl) (by kernel_rfl) (fun _ _ _ h => h) (Or.inl ⟨by rfl, by (intro w hSw; (try dsimp only at hSw); go_simp; (try with_reducible rfl))⟩) (by assumption) ?_; (try simp only [Act.put, List.setIfInBounds_toArray, List.set_cons_zero, List.set_cons_succ])
                  refine wpAnyT_take (i := 3) (by kernel_rfl) (by decide) rfl (by kernel_rfl) (by kernel_rfl) (by kernel_rfl) (fun _ _ _ h => h) (Or.inl ⟨by rfl, by (intro w hSw; (try dsimp only at hSw); go_simp; (try with_reducible rfl))⟩) (by assumption) ?_; (try simp only [Act.put, List.setIfInBounds_toArray, List.set_cons_zero, List.set_cons_succ])
                  refine wpAnyT_take (i := 4) (by kernel_rfl) (by decide) rfl (by kernel_rfl) (by kernel_rfl) (by kernel_rfl) (fun _ _ _ h => h) (Or.inl ⟨by rfl, by (intro w hSw; (try dsimp only at hSw); go_simp; (try with_reducible rfl))⟩) (by assumption) ?_; (try simp only [Act.put, List.setIfInBounds_toArray, List.set_cons_zero, List.set_cons_succ])
                  refine wpAnyT_take (i := 5) (by kernel_rfl) (by decide) rfl (by kernel_rfl) (by kernel_rfl) (by kernel_rfl) (fun _ _ _ h => h) (Or.inl ⟨by rfl, by (intro w hSw; (try dsimp only at hSw); go_simp; (try with_reducible rfl))⟩) (by assumption) ?_; (try simp only [Act.put, List.setIfInBounds_toArray, List.set_cons_zero, List.set_cons_succ])
                  refine wpAnyT_take (i := 6) (by kernel_rfl) (by decide) rfl (by kernel_rfl) (by kernel_rfl) (by kernel_rfl) (fun _ _ _ h => h) (Or.inl ⟨by rfl, by (intro w hSw; (try dsimp only at hSw); go_simp; (try with_reducible rfl))⟩) (by assumption) ?_; (try simp only [Act.put, List.setIfInBounds_toArray, List.set_cons_zero, List.set_cons_succ])
                  refine wpAnyT_take (i := 7) (by kernel_rfl) (by decide) rfl (by kernel_rfl) (by kernel_rfl) (by kernel_rfl) (fun _ _ _ h => h) (Or.inl ⟨by rfl, by (intro w hSw; (try dsimp only at hSw); go_simp; (try with_reducible rfl))⟩) (by assumption) ?_; (try simp only [Act.put, List.setIfInBounds_toArray, List.set_cons_zero, List.set_cons_succ])
                  refine wpAnyT_take (i := 8) (by kernel_rfl) (by decide) rfl (by kernel_rfl) (by kernel_rfl) (by kernel_rfl) (fun _ _ _ h => h) (Or.inl ⟨by rfl, by (intro w hSw; (try dsimp only at hSw); go_simp; (try with_reducible rfl))⟩) (by assumption) ?_; (try simp only [Act.put, List.setIfInBounds_toArray, List.set_cons_zero, List.set_cons_succ])
                  refine wpAnyT_take (i := 9) (by kernel_rfl) (by decide) rfl (by kernel_rfl) (by kernel_rfl) (by kernel_rfl) (fun _ _ _ h => h) (Or.inl ⟨by rfl, by (intro w hSw; (try dsimp only at hSw); go_simp; (try with_reducible rfl))⟩) (by assumption) ?_; (try simp only [Act.put, List.setIfInBounds_toArray, List.set_cons_zero, List.set_cons_succ])
                  refine wpAnyT_take (i := 10) (by kernel_rfl) (by decide) rfl (by kernel_rfl) (by kernel_rfl) (by kernel_rfl) (fun _ _ _ h => h) (Or.inl ⟨by rfl, by (intro w hSw; (try dsimp only at hSw); go_simp; (try with_reducible rfl))⟩) (by assumption) ?_; (try simp only [Act.put, List.setIfInBounds_toArray, List.set_cons_zero, List.set_cons_succ])
                  refine wpAnyT_take (i := 11) (by kernel_rfl) (by decide) rfl (by kernel_rfl) (by kernel_rfl) (by kernel_rfl) (fun _ _ _ h => h) (Or.inl ⟨by rfl, by (intro w hSw; (try dsimp only at hSw); go_simp; (try with_reducible rfl))⟩) (by assumption) ?_; (try simp only [Act.put, List.setIfInBounds_toArray, List.set_cons_zero, List.set_cons_succ])
                  refine wpAnyT_take (i := 12) (by kernel_rfl) (by decide) rfl (by kernel_rfl) (by kernel_rfl) (by kernel_rfl) (fun _ _ _ h => h) (Or.inl ⟨by rfl, by (intro w hSw; (try dsimp only at hSw); go_simp; (try with_reducible rfl))⟩) (by assumption) ?_; (try simp only [Act.put, List.setIfInBounds_toArray, List.set_cons_zero, List.set_cons_succ])
                  refine wpAnyT_take (i := 13) (by kernel_rfl) (by decide) rfl (by kernel_rfl) (by kernel_rfl) (by kernel_rfl) (fun _ _ _ h => h) (Or.inl ⟨by rfl, by (intro w hSw; (try dsimp only at hSw); go_simp; (try with_reducible rfl))⟩) (by assumption) ?_; (try simp only [Act.put, List.setIfInBounds_toArray, List.set_cons_zero, List.set_cons_succ])
                  refine wpAnyT_take (i := 14) (by kernel_rfl) (by decide) rfl (by kernel_rfl) (by kernel_rfl) (by kernel_rfl) (fun _ _ _ h => h) (Or.inl ⟨by rfl, by (intro w hSw; (try dsimp only at hSw); go_simp; (try with_reducible rfl))⟩) (by assumption) ?_; (try simp only [Act.put, List.setIfInBounds_toArray, List.set_cons_zero, List.set_cons_succ])
                  refine wpAnyT_take (i := 15) (by kernel_rfl) (by decide) rfl (by kernel_rfl) (by kernel_rfl) (by kernel_rfl) (fun _ _ _ h => h) (Or.inl ⟨by rfl, by (intro w hSw; (try dsimp only at hSw); go_simp; (try with_reducible rfl))⟩) (by assumption) ?_; (try simp only [Act.put, List.setIfInBounds_toArray, List.set_cons_zero, List.set_cons_succ])
                  refine wpAnyT_one (i := 16) (by kernel_rfl) rfl (fun K hK => ?_)
                  go_simp
                  refine hK.out _ _ (fun e => absurd rfl e) (fun hH => ?_); refine wpAnyT_done (by kernel_rfl) ?_ _; clear hHeld hK K hH
                  clear r1 r2 cp
                  go_wp2_with fail
                  go_roundw
                  case rel => exact ⟨q + 1, _, by omega, by go_num, HPU.out, by rw [List.length_set]; exact HRL.out, HST.out HQ.out, Lib.hid (by rw [← HRq.out, HRA.out, if_pos HNP.out]), belowSet0 (belowDrewN HBE.out 1)⟩
                  case measure => simp [intOf]; omega
              · have hql : q = (ft a).length := by omega
                have HQE : Hid (rk2 = arrR pl k (ft a) rk') := Lib.hid (by
                  have := HRq.out
                  rw [hql, List.drop_length, arrR] at this
                  exact this)
                clear hql
                go_wp2_with fail
                go_roundw
                case rel => exact ⟨j + 1, rk2, by omega, by go_num, HBK1.out, HRL.out, HBD.out, Lib.hid (by rw [← HRj.out, HDJ.out, ptsR, ← HQE.out]), HBE.out⟩
                case measure => simp [intOf]; omega
          · have hjl : j = A0.length := by omega
            have HJE : Hid (rk' = ptsR ft pl k A0 rk) := Lib.hid (by
              have := HRj.out
              rw [hjl, List.drop_length, ptsR] at this
              exact this)
            clear hjl
            go_wp2_with fail
            go_roundw
            case rel => exact ⟨k + 1, rk', by have := HLT.out; omega, by go_num, HBK1.out, HRL.out, HBD.out, Lib.hid (by rw [← HR.out, HDK.out, allR, ← HJE.out]), HBE.out⟩
            case measure => simp [intOf]; have := HLT.out; omega
      · have hkl : k = all.length := by omega
        have HKE : Hid (rk = ranksP (toL l) all) := Lib.hid (by
          have := HR.out
          rw [hkl, List.drop_length, allR] at this
          unfold ranksP
          rw [HFT.out, HPE.out]
          exact this)
        have HRF : Hid (∀ a, a < m → rk.getD (pl a) 0 = rankN (Arr l) m a) := Lib.hid (fun a ha => by
          rw [HKE.out, ← HPE.out]
          exact (rank_eq HOK.out HRK.out ha).symm)
        have hbn : Below wr.heap.size wr (wr.alloc (.cells (madeCells #[.int .i64 0] m) 3)) := (Below.refl _ _).alloc (Nat.le_refl _) _
        have HBN := Lib.hid hbn
        have HB4 : Hid (Below w.heap.size w wr) := Lib.hid (HB3.out.trans (HBE.out.mono HB3.out.size))
        have HPR := Lib.hid (HPL3.out.beneath HBE.out)
        have HMM := Lib.hid (IBlk.made wr m)
        have hmk3 := make_ints m (by omega)
        obtain ⟨wo, hwo⟩ : ∃ wo, wo = wr := ⟨_, rfl⟩
        subst hwo
        clear hkl hbn
        go_wp2_with fail
        clear hmk3
        go_loopw [87] (fun i wz => ∃ z : Nat, z ≤ m ∧ i = .int .i64 z ∧ IBlk wz wo.heap.size (nI (upTo (fun a => rk.getD (pl a) 0) m z)) ∧ Below wo.heap.size wo wz) (fun i _ => m - (intOf i).toNat)
        case atStart => exact ⟨0, Nat.zero_le _, rfl, by rw [upTo_zero]; exact HMM.out, HBN.out⟩
        case round =>
          obtain ⟨z, hz, rfl, hown, hb2r⟩ := hrel
          have HO := Lib.hid hown
          have HZR := Lib.hid hb2r
          clear hown hb2r
          by_cases hltz : z < m
          · have cp := (HPR.out.beneath HZR.out).at_ (i := z) (by rw [nI_len, placeL_len]; exact hltz)
            rw [nI_at, HPC.out z hltz] at cp
            have hpz := HPM.out z hltz
            have cr := (HBK1.out.beneath HZR.out).at_ (i := pl z) (by rw [nI_len, HRL.out]; exact hpz)
            rw [nI_at] at cr
            have cz := HO.out.at_ (i := z) (by rw [nI_len, upTo_len]; exact hltz)
            have fz := HO.out.free z
            have HP2 : Hid (IBlk (wr.setCell ⟨wo.heap.size, z, none⟩ (.int .i64 ((rk.getD (pl z) 0 : Nat) : Int))) wo.heap.size (nI (upTo (fun a => rk.getD (pl a) 0) m (z + 1)))) := Lib.hid (by
              rw [← upTo_step _ hltz, ← nI_set]
              exact HO.out.put z _)
            have HB2r := Lib.hid (belowSet0 (j := z) (v := .int .i64 ((rk.getD (pl z) 0 : Nat) : Int)) HZR.out)
            have hrkl := HRL.out
            generalize rk.getD (pl z) 0 = rz at *
            generalize pl z = pz at *
            have hpz2 : pz < rk.length := by omega
            clear hrkl
            go_wp2_with fail
            go_roundw
            case rel => exact ⟨z + 1, by omega, by go_num, HP2.out, HB2r.out⟩
            case measure => simp [intOf]; omega
          · have hzm : z = m := by omega
            subst hzm
            have HO2 : Hid (IBlk wr wo.heap.size (nI (ranksL (Arr l) z))) := Lib.hid (by have := HO.out; rwa [upTo_end (g := rankN (Arr l) z) (fun a ha => HRF.out a ha)] at this)
            have HB := Lib.hid (HB4.out.trans (HZR.out.mono HB4.out.size))
            go_wp2_with fail
            go_ret2
            exact ⟨_, rfl, by rw [HG.out]; have := HO2.out.own (lo := w.heap.size) HB4.out.size (by rw [nI_len, ranksL_len]; unfold maxLen; omega); rwa [nI_len, ranksL_len] at this, HB.out⟩
  · have HG : Hid (ranksG n l = []) := Lib.hid (by unfold ranksG; rw [if_neg (by rw [he0]; exact h0)])
    have hne : (e0 == 0) = false := by simpa using h0
    have hne2 : (e0 != 0) = true := by simpa using h0
    clear he0
    go_enter Try.func12, Try.ntmps12
    go_wp2_with fail
    refine HC.out.mono ?_
    rintro e w1 ⟨rfl, hb1⟩
    have HB1 := Lib.hid hb1
    clear hb1
    go_wp2_with fail
    go_ret2
    exact ⟨_, rfl, by rw [HG.out]; exact OwnInts.nil _ _, HB1.out⟩
end Go.Proofs.Ytohoihicmmidmaa
