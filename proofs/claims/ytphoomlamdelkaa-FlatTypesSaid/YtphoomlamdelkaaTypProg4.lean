/-
  The program's may at structs and arrays, and at what is no kind; may at any type.
-/
import Derived.Test.YtphoomlamdelkaaTypProg3
import Derived.OwnWalk
namespace Go.Proofs.Ytphoomlamdelkaa
set_option linter.unusedVariables false
set_option linter.unusedSimpArgs false
open Go.ChangeShapes Go.WideShapes Go.ChangeAt Go.RowKit

theorem may0_any {w : World} {A : Option Addr} {c : Nat} {rows : List TyR} {k : Nat} {S : Option Addr} {cs : Nat} (h : MayIn w A c rows k S cs) (hκ : (rows.getD k default).kind < 1 ∨ 5 < (rows.getD k default).kind) :
    Calls Try.prog 41 #[.slice A rows.length c, .int .i64 k, .slice S k cs] w (MayAns (tbl rows) k w) := by
  have hl := h.tab.len
  have hk := h.lt
  obtain ⟨b, off, rfl, hbl, c0, c1, c2, c3⟩ := (h.tab.rows.elem hk).at_
  have HM : Hid (mayT (tbl rows) k = mayX (tbl rows) (rows.getD k default).data k) := Lib.hid (by unfold mayT; rw [tbl_at hk])
  have HD : Hid ((tbl rows).getD k default = (rows.getD k default).data) := Lib.hid (tbl_at hk)
  have hrk := h.tab.row hk
  have hfew := h.few _ (mem_getD (d := default) hk)
  have HI := Lib.hid h
  clear h
  generalize rows.getD k default = r at c0 c1 c2 c3 HM hrk hκ hfew HD
  obtain ⟨κ, el, ma, pa, pc, parts⟩ := r
  simp only at c0 c1 c2 c3 hκ hfew
  have hlp := Nat.le_trans hrk.hdr.fit hrk.hdr.cap
  unfold maxLen at hlp
  simp only at hlp
  clear hrk
  have HX : Hid (goodT (tbl rows) k = false) := Lib.hid (by unfold goodT; rw [HM.out, mayX_other _ _ _ (by show ¬ κ = 1; omega) (by show ¬ κ = 2; omega) (by show ¬ κ = 3; omega) (by show ¬ κ = 4; omega) (by show ¬ κ = 5; omega)]; rfl)
  go_enter Try.func41, Try.ntmps41
  go_wp2_with fail
  refine (pplain_any ⟨κ, el, ma, pa, pc, parts⟩ (by simpa using hlp)).mono ?_
  rintro e w1 ⟨rfl, hb1⟩
  have kx : Blk w1 (w.heap.size + 1) 31 #[.int .u8 κ, .int .i64 el, .int .i64 ma, .slice pa parts.length pc] := (Blk.new2 w _ _ _).beneath hb1
  have k0 := kx.cells 0
  have HB := Lib.hid (below_new2 hb1)
  have hz := hb1.size
  simp only [World.size_alloc] at hz
  clear kx hb1
  go_wp2_with fail
  all_goals go_ret2
  all_goals exact mayAns_of rfl HX.out.symm (fun h => by cases h) HB.out

theorem good_array {t : List Ty} {k : Nat} {el ma : Int} {ps : List Int} (hd : t.getD k default = ⟨5, el, ma, ps⟩) (h0 : 0 ≤ el) (h1 : el < k) (hm1 : 1 ≤ ma) (hm : ma ≤ 16) (hp : ps.length = 0) :
    ((ofT t k).length : Int) = ma * (ofT t el.toNat).length ∧ goodT t k = decide ((ofT t k).length ≤ 32) := by
  have h := of_array (t := t) (k := k) (by rw [hd]) (by rw [hd]; exact ⟨h0, h1⟩)
  rw [hd] at h
  refine ⟨?_, ?_⟩
  · rw [h, rep_len]
    show (((ma.toNat * (ofT t el.toNat).length : Nat)) : Int) = _
    rw [Int.natCast_mul, Int.toNat_of_nonneg (by omega)]
  · unfold goodT mayT
    rw [hd]
    show (decide (0 ≤ el) && (decide (el < k) && (decide (1 ≤ ma) && (decide (ma ≤ 16) && decide (ps.length = 0)))) && _) = _
    rw [decide_eq_true h0, decide_eq_true h1, decide_eq_true hm1, decide_eq_true hm, decide_eq_true hp]
    rfl
set_option maxHeartbeats 1600000 in
theorem may5_any {w : World} {A : Option Addr} {c : Nat} {rows : List TyR} {k : Nat} {S : Option Addr} {cs : Nat} (h : MayIn w A c rows k S cs) (hκ : (rows.getD k default).kind = 5) :
    Calls Try.prog 41 #[.slice A rows.length c, .int .i64 k, .slice S k cs] w (MayAns (tbl rows) k w) := by
  have hl := h.tab.len
  have hk := h.lt
  obtain ⟨b, off, rfl, hbl, c0, c1, c2, c3⟩ := (h.tab.rows.elem hk).at_
  have HM : Hid (mayT (tbl rows) k = mayX (tbl rows) (rows.getD k default).data k) := Lib.hid (by unfold mayT; rw [tbl_at hk])
  have HD : Hid ((tbl rows).getD k default = (rows.getD k default).data) := Lib.hid (tbl_at hk)
  have hrk := h.tab.row hk
  have hfew := h.few _ (mem_getD (d := default) hk)
  have HI := Lib.hid h
  clear h
  generalize rows.getD k default = r at c0 c1 c2 c3 HM hrk hκ hfew HD
  obtain ⟨κ, el, ma, pa, pc, parts⟩ := r
  simp only at c0 c1 c2 c3 hκ hfew
  subst hκ
  have HK := Lib.hid hrk
  clear hrk
  have HX : Hid (mayT (tbl rows) k = (decide (0 ≤ el) && (decide (el < k) && (decide (1 ≤ ma) && (decide (ma ≤ 16) && decide (parts.length = 0)))))) := HM
  clear HM
  have HA := Lib.hid (fun h0 h1 hm1 hm hp => good_array (t := tbl rows) (k := k) (el := el) (ma := ma) (ps := parts) HD.out h0 h1 hm1 hm hp)
  have HF : Hid (mayT (tbl rows) k = false → goodT (tbl rows) k = false) := Lib.hid (fun h => by unfold goodT; rw [h]; rfl)
  go_enter Try.func41, Try.ntmps41
  go_wp2_with fail
  refine (pplain_any ⟨5, el, ma, pa, pc, parts⟩ (by simp; omega)).mono ?_
  rintro e w1 ⟨rfl, hb1⟩
  have kx : Blk w1 (w.heap.size + 1) 31 #[.int .u8 5, .int .i64 el, .int .i64 ma, .slice pa parts.length pc] := (Blk.new2 w _ _ _).beneath hb1
  have k0 := kx.cells 0
  have k1 := kx.cells 1
  have k2 := kx.cells 2
  have KX := Lib.hid kx
  have HB := Lib.hid (below_new2 hb1)
  have hz := hb1.size
  simp only [World.size_alloc] at hz
  clear kx hb1
  have HPK : Hid (plainK (TyR.data ⟨5, el, ma, pa, pc, parts⟩) = decide (parts.length = 0)) := Lib.hid rfl
  rw [HPK.out]
  clear HPK
  by_cases hp0 : parts.length = 0
  · have HP0 := Lib.hid hp0
    rw [decide_eq_true hp0]
    clear hp0
    have HO : Hid (∀ w2 : World, IntsAt (w2.alloc (.cells #[.int .i64 el] 3)) 0 (w2.alloc (.cells #[.int .i64 el] 3)).heap.size (some ⟨w2.heap.size, 0, none⟩) [el] ∧ Hdr (some ⟨w2.heap.size, 0, none⟩) 1 1) := Lib.hid fun w2 => (own_hdr (OwnInts.one w2 0 w2.heap.size el (Nat.zero_le _) rfl)).symm
    by_cases hin : 0 ≤ el ∧ el < k
    · obtain ⟨el0, elk⟩ := hin
      have HL : Hid (lowerB [el] k = true) := Lib.hid (by rw [lowerB_one, decide_eq_true el0, decide_eq_true elk]; rfl)
      go_wp2_with fail
      refine (there_any (xs := [el]) (HO.out _).2 (HO.out _).1 k).mono ?_
      rw [HL.out]
      rintro e w2 ⟨rfl, hb2⟩
      have HB2 := Lib.hid (HB.out.trans ((below_new hb2).mono HB.out.size))
      have kx2 : Blk w2 (w.heap.size + 1) 31 #[.int .u8 5, .int .i64 el, .int .i64 ma, .slice pa parts.length pc] := (KX.out.alloc _).beneath hb2
      have m0 := kx2.cells 0
      have m1 := kx2.cells 1
      have m2 := kx2.cells 2
      clear k0 k1 k2 kx2 hb2
      by_cases hm : 1 ≤ ma ∧ ma ≤ 16
      · obtain ⟨ma1, ma16⟩ := hm
        obtain ⟨i, rfl⟩ := Int.eq_ofNat_of_zero_le el0
        have hik : i < k := by omega
        have hle : (ofT (tbl rows) i).length ≤ 32 := good_le (allGood_iff.1 HI.out.good i hik)
        have HG := Lib.hid (HA.out el0 elk ma1 ma16 HP0.out)
        rw [Int.toNat_natCast] at HG
        have hsz := (HI.out.sizes.keep HB2.out).cell (k := i) (by rw [sizes_len]; exact hik)
        obtain ⟨bs, os, y, rfl, hcy, HY⟩ := hsz
        have HYV : Hid (y = (ofT (tbl rows) i).length) := Lib.hid (by rw [← HY.out, sizes_at hik])
        have hy0 : 0 ≤ y ∧ y ≤ 32 := by have := HYV.out; omega
        obtain ⟨y0, y1⟩ := hy0
        have hmul : ma * y ≤ 512 ∧ 0 ≤ ma * y := by
          refine ⟨?_, Int.mul_nonneg (by omega) y0⟩
          have := Int.mul_le_mul ma16 y1 y0 (by omega)
          omega
        obtain ⟨mu1, mu0⟩ := hmul
        have hwr : IntKind.i64.wrap (ma * y) = ma * y := IntWalk.i64_in _ (by omega)
        have HMV : Hid (ma * y = (ofT (tbl rows) k).length) := Lib.hid (by rw [HYV.out]; exact HG.out.1.symm)
        go_wp2_with fail
        go_quiet (fail)
        go_wp2_with fail
        go_ret2
        exact mayAns_of rfl (by rw [HG.out.2, HMV.out, decide_eq_decide]; omega) (fun _ => HMV.out) (belowDrewN HB2.out _)
      · have HN := Lib.hid (HF.out (by rw [HX.out]; by_cases h1 : 1 ≤ ma
                                       · rw [decide_eq_false (fun h2 => hm ⟨h1, h2⟩)]; simp
                                       · rw [decide_eq_false h1]; simp))
        by_cases hm1 : ma < 1
        · clear hm
          go_wp2_with fail
          go_ret2
          exact mayAns_of rfl HN.out.symm (fun h => by cases h) HB2.out
        · have hq : decide (ma ≤ 16) = false := decide_eq_false (by omega)
          have hq1 : 1 ≤ ma := by omega
          clear hm hm1
          go_wp2_with fail
          go_ret2
          exact mayAns_of rfl HN.out.symm (fun h => by cases h) HB2.out
    · have HL : Hid (lowerB [el] k = false) := Lib.hid (by
        rw [lowerB_one]
        by_cases h0 : 0 ≤ el
        · rw [decide_eq_false (fun h2 => hin ⟨h0, h2⟩)]; simp
        · rw [decide_eq_false h0]; rfl)
      have HN := Lib.hid (HF.out (by rw [HX.out, ← Bool.and_assoc, ← lowerB_one, HL.out]; rfl))
      clear hin
      go_wp2_with fail
      refine (there_any (xs := [el]) (HO.out _).2 (HO.out _).1 k).mono ?_
      rw [HL.out]
      rintro e w2 ⟨rfl, hb2⟩
      have HB2 := Lib.hid (HB.out.trans ((below_new hb2).mono HB.out.size))
      clear hb2
      go_wp2_with fail
      all_goals go_ret2
      all_goals exact mayAns_of rfl HN.out.symm (fun h => by cases h) HB2.out
  · rw [decide_eq_false hp0]
    have HN := Lib.hid (HF.out (by rw [HX.out, decide_eq_false hp0]; simp))
    clear hp0
    go_wp2_with fail
    all_goals go_ret2
    all_goals exact mayAns_of rfl HN.out.symm (fun h => by cases h) HB.out

/-- The sizes of parts. -/
def psz (t : List Ty) (ps : List Int) : List Int := ps.map fun p => ((ofP t p).length : Int)
theorem psz_sum (t : List Ty) : ∀ ps : List Int, (psz t ps).sum = ((ps.flatMap (ofP t)).length : Int)
  | [] => rfl
  | p :: ps => by
    show ((ofP t p).length : Int) + (psz t ps).sum = _
    rw [psz_sum t ps, List.flatMap_cons, List.length_append]
    omega
theorem psz_snoc {t : List Ty} {ps : List Int} {j : Nat} (h : j < ps.length) : psz t (ps.take (j + 1)) = psz t (ps.take j) ++ [((ofP t (ps.getD j 0)).length : Int)] := by
  unfold psz
  rw [take_succ_getD (d := 0) h, List.map_append]; rfl
theorem psz_len (t : List Ty) (ps : List Int) : (psz t ps).length = ps.length := by simp [psz]
set_option maxHeartbeats 1600000 in
theorem may4_any {w : World} {A : Option Addr} {c : Nat} {rows : List TyR} {k : Nat} {S : Option Addr} {cs : Nat} (h : MayIn w A c rows k S cs) (hκ : (rows.getD k default).kind = 4) :
    Calls Try.prog 41 #[.slice A rows.length c, .int .i64 k, .slice S k cs] w (MayAns (tbl rows) k w) := by
  have hl := h.tab.len
  have hk := h.lt
  obtain ⟨b, off, rfl, hbl, c0, c1, c2, c3⟩ := (h.tab.rows.elem hk).at_
  have HM : Hid (mayT (tbl rows) k = mayX (tbl rows) (rows.getD k default).data k) := Lib.hid (by unfold mayT; rw [tbl_at hk])
  have HD : Hid ((tbl rows).getD k default = (rows.getD k default).data) := Lib.hid (tbl_at hk)
  have hrk := h.tab.row hk
  have hfew := h.few _ (mem_getD (d := default) hk)
  have HI := Lib.hid h
  clear h
  generalize rows.getD k default = r at c0 c1 c2 c3 HM hrk hκ hfew HD
  obtain ⟨κ, el, ma, pa, pc, parts⟩ := r
  simp only at c0 c1 c2 c3 hκ hfew
  subst hκ
  have HK := Lib.hid hrk
  clear hrk
  have HX : Hid (mayT (tbl rows) k = (decide (el = 0) && (decide (ma = 0) && (decide (1 ≤ parts.length) && (decide (parts.length ≤ 8) && lowerB parts k))))) := HM
  clear HM
  have HF : Hid (mayT (tbl rows) k = false → goodT (tbl rows) k = false) := Lib.hid (fun h => by unfold goodT; rw [h]; rfl)
  go_enter Try.func41, Try.ntmps41
  go_wp2_with fail
  refine (pplain_any ⟨4, el, ma, pa, pc, parts⟩ (by simp; omega)).mono ?_
  rintro e w1 ⟨rfl, hb1⟩
  have kx : Blk w1 (w.heap.size + 1) 31 #[.int .u8 4, .int .i64 el, .int .i64 ma, .slice pa parts.length pc] := (Blk.new2 w _ _ _).beneath hb1
  have k0 := kx.cells 0
  have k3 := kx.cells 3
  have KX := Lib.hid kx
  have HB := Lib.hid (below_new2 hb1)
  have hz := hb1.size
  simp only [World.size_alloc] at hz
  clear kx hb1
  have HPK : Hid (plainK (TyR.data ⟨4, el, ma, pa, pc, parts⟩) = (decide (el = 0) && decide (ma = 0))) := Lib.hid rfl
  rw [HPK.out]
  clear HPK
  obtain ⟨pb, hpb⟩ : ∃ pb, (decide (el = 0) && decide (ma = 0)) = pb := ⟨_, rfl⟩
  rw [hpb]
  have HP := Lib.hid hpb
  clear hpb
  cases pb with
  | false =>
    have HN := Lib.hid (HF.out (by rw [HX.out, ← Bool.and_assoc, HP.out]; rfl))
    go_wp2_with fail
    all_goals go_ret2
    all_goals exact mayAns_of rfl HN.out.symm (fun h => by cases h) HB.out
  | true =>
    cases hlow : lowerB parts k with
    | false =>
      have HL := Lib.hid hlow
      clear hlow
      have HN := Lib.hid (HF.out (by rw [HX.out, HL.out]; simp))
      go_wp2_with fail
      refine (there_any (HK.out.keep HB.out).hdr ((HK.out.keep HB.out).ints.more (Nat.le_refl _) HB.out.size) k).mono ?_
      simp only
      rw [HL.out]
      rintro e w2 ⟨rfl, hb2⟩
      have HB2 := Lib.hid (HB.out.trans (hb2.mono HB.out.size))
      clear hb2
      go_wp2_with fail
      all_goals go_ret2
      all_goals exact mayAns_of rfl HN.out.symm (fun h => by cases h) HB2.out
    | true =>
      have HL := Lib.hid hlow
      clear hlow
      have HPS : Hid (ofT (tbl rows) k = parts.flatMap (ofP (tbl rows))) := Lib.hid (by
        rw [of_struct (by rw [HD.out]; rfl) (by rw [HD.out]; exact lowerB_iff.1 HL.out), HD.out]; rfl)
      have HPB : Hid (∀ p ∈ parts, 0 ≤ p ∧ p < k ∧ (ofP (tbl rows) p).length ≤ 32) := Lib.hid fun p hp => by
        obtain ⟨p0, p1⟩ := lowerB_iff.1 HL.out p hp
        exact ⟨p0, p1, part_le HI.out.good ⟨p0, p1⟩⟩
      go_wp2_with fail
      refine (there_any (HK.out.keep HB.out).hdr ((HK.out.keep HB.out).ints.more (Nat.le_refl _) HB.out.size) k).mono ?_
      simp only
      rw [HL.out]
      rintro e w2 ⟨rfl, hb2⟩
      have KX2 := Lib.hid (KX.out.beneath hb2)
      have m3 := KX2.out.cells 3
      have hz2 := KX2.out.lt
      have HB2 := Lib.hid (HB.out.trans (hb2.mono HB.out.size))
      clear hb2 k0 k3 KX
      go_wp2_with fail
      go_loopw [12, 77] (fun v i wr => ∃ j : Nat, j ≤ parts.length ∧ i = .int .i64 j ∧ OwnInts wr w.heap.size v (psz (tbl rows) (parts.take j)) ∧ Blk wr (w.heap.size + 1) 31 #[.int .u8 4, .int .i64 el, .int .i64 ma, .slice pa parts.length pc] ∧ Below w.heap.size w wr) (fun _ i _ => parts.length - (intOf i).toNat)
      case atStart => exact ⟨0, Nat.zero_le _, rfl, OwnInts.nil _ _, KX2.out, HB2.out⟩
      case round =>
        obtain ⟨j, hj, rfl, hown, hblk, hbel⟩ := hrel
        have HO := Lib.hid hown
        have HBk := Lib.hid hblk
        have HBl := Lib.hid hbel
        clear hown hblk hbel
        by_cases hlt : j < parts.length
        · obtain ⟨bp, op, x, hpa, hcx, HE⟩ := (HK.out.keep HBl.out).ints.cell hlt
          simp only at hpa
          subst hpa
          obtain ⟨x0, x1, x2⟩ := HPB.out x (by have := mem_getD (d := (0 : Int)) hlt; rwa [HE.out] at this)
          obtain ⟨i, rfl⟩ := Int.eq_ofNat_of_zero_le x0
          have hik : i < k := by omega
          obtain ⟨bs, os, y, rfl, hcy, HY⟩ := (HI.out.sizes.keep HBl.out).cell (k := i) (by rw [sizes_len]; exact hik)
          have HYV : Hid (y = (ofP (tbl rows) (i : Int)).length) := Lib.hid (by rw [← HY.out, sizes_at hik]; rfl)
          have HLN : Hid ((psz (tbl rows) (parts.take j)).length ≤ 1000) := Lib.hid (by rw [psz_len, List.length_take]; omega)
          go_wp2_with (at_builtin; refine wpList_app1 rfl (.tmp 81) (.tmp 86) rfl w.heap.size _ _ rfl y HO.out rfl (by have := HLN.out; omega) HBl.out.size ?_; intro v' w3 hown3 hg3; refine pause ?_)
          have hB3 := (HBl.out.alloc HBl.out.size (.cells #[.int .i64 y] 3)).grown hg3 (by rw [World.size_alloc]; have := HBl.out.size; omega) HO.out.base
          have hK3 := (HBk.out.alloc (.cells #[.int .i64 y] 3)).grown hg3 ((OwnInts.keep HO.out ((Below.refl _ _).alloc (Nat.le_refl _) _)).ne (HBk.out.alloc (.cells #[.int .i64 y] 3)) (by decide))
          have HO3 := Lib.hid hown3
          have HB3 := Lib.hid hB3
          have HK3 := Lib.hid hK3
          clear hown3 hg3 hB3 hK3
          refine resume ?_
          go_wp2_with fail
          go_roundw
          case rel => exact ⟨j + 1, by omega, by go_num, by rw [psz_snoc hlt, HE.out, ← HYV.out]; exact HO3.out, HK3.out, HB3.out⟩
          case measure => simp [intOf]; omega
        · have HFU : Hid (psz (tbl rows) (parts.take j) = psz (tbl rows) parts) := Lib.hid (by rw [List.take_of_length_le (by omega)])
          have HO4 : Hid (OwnInts wr w.heap.size u12 (psz (tbl rows) parts)) := Lib.hid (by have := HO.out; rwa [HFU.out] at this)
          clear HO
          obtain ⟨A4, c4, hv4, hnil4, hints4, hle4, hcap4⟩ := HO4.out.form
          subst hv4
          have HH4 : Hid (Hdr A4 (psz (tbl rows) parts).length c4) := Lib.hid ⟨hle4, hcap4, hnil4⟩
          have HI4 := Lib.hid hints4
          have HLL : Hid ((psz (tbl rows) parts).length = parts.length) := Lib.hid (psz_len _ _)
          clear hnil4 hints4 hle4 hcap4
          have HBD : Hid (∀ x ∈ psz (tbl rows) parts, 0 ≤ x ∧ x ≤ 512) := Lib.hid fun x hx => by
            obtain ⟨p, hp, rfl⟩ := List.mem_map.1 hx
            have := (HPB.out p hp).2.2
            omega
          have HSUM : Hid ((psz (tbl rows) parts).sum = (ofT (tbl rows) k).length) := Lib.hid (by rw [psz_sum, HPS.out])
          have HG : Hid (goodT (tbl rows) k = ((decide (1 ≤ parts.length) && decide (parts.length ≤ 8)) && decide ((ofT (tbl rows) k).length ≤ 32))) := Lib.hid (by
            unfold goodT
            rw [HX.out, ← Bool.and_assoc, HP.out, HL.out]
            simp)
          obtain ⟨sm, hsm⟩ : ∃ sm, (psz (tbl rows) parts).sum = sm := ⟨_, rfl⟩
          have HSM := Lib.hid hsm
          have hc4 := sum_any HH4.out HI4.out HBD.out (by rw [HLL.out]; omega)
          rw [hsm, HLL.out] at hc4
          have HC4 := Lib.hid hc4
          have HV : Hid (sm = (ofT (tbl rows) k).length) := Lib.hid (by rw [← hsm, HSUM.out])
          clear hc4 hsm HSUM HSM HBD HI4 HH4 HO4 HFU
          generalize psz (tbl rows) parts = ys at HLL
          have hyl := HLL.out
          obtain ⟨q, hq⟩ : ∃ q, (ofT (tbl rows) k).length = q := ⟨_, rfl⟩
          rw [hq] at HV HG
          have HQ := Lib.hid hq
          clear hq
          obtain rfl := HV.out
          go_wp2_with fail
          all_goals
            refine HC4.out.mono ?_
            rintro e w5 ⟨rfl, rfl⟩
            go_wp2_with fail
            all_goals go_ret2
            all_goals refine mayAns_of rfl ?_ (fun _ => by rw [HQ.out]) HBl.out
            all_goals rw [HG.out]
            all_goals (first | rfl | (rw [Bool.eq_iff_iff]; simp only [Bool.and_eq_true, Bool.or_eq_true, decide_eq_true_eq, beq_iff_eq, bne_iff_ne, Bool.not_eq_true', beq_eq_false_iff_ne, decide_eq_false_iff_not, Bool.false_eq_true, false_iff, true_iff, iff_false, iff_true, true_and, and_true, false_and, and_false, true_or, or_true, false_or, or_false, ne_eq]; first | done | omega | (intros; omega)) | (rw [Bool.eq_iff_iff]; simp [*]; done) | (rw [Bool.eq_iff_iff]; simp [*]; omega))
theorem may_any {w : World} {A : Option Addr} {c : Nat} {rows : List TyR} {k : Nat} {S : Option Addr} {cs : Nat} (h : MayIn w A c rows k S cs) :
    Calls Try.prog 41 #[.slice A rows.length c, .int .i64 k, .slice S k cs] w (MayAns (tbl rows) k w) := by
  by_cases h0 : (rows.getD k default).kind < 1 ∨ 5 < (rows.getD k default).kind
  · exact may0_any h h0
  by_cases h1 : (rows.getD k default).kind = 1 ∨ (rows.getD k default).kind = 2
  · exact may12_any h h1
  by_cases h3 : (rows.getD k default).kind = 3
  · exact may3_any h h3
  by_cases h4 : (rows.getD k default).kind = 4
  · exact may4_any h h4
  · exact may5_any h (by omega)
end Go.Proofs.Ytphoomlamdelkaa
