/-
  The program's Twin of memories.
-/
import Derived.Test.YthddacnnhmcoaaaMmHalf
import Derived.Deep.RegionWith
import Derived.Deep.RegionHeld3
namespace Go.Proofs.Ythddacnnhmcoaaa
set_option linter.unusedVariables false
set_option linter.unusedSimpArgs false
open Go.ChangeShapes Go.WideShapes Go.ChangeAt Go.RowKit

theorem make_vals (n : Nat) (h : n ≤ 1000000) : ∃ M : List Value, M.length = n * 4 ∧ ∀ w : World, (Instr.makeSlice 68 (.int .i64 n) (.int .i64 n)).run Try.prog w = .ok (.slice (some ⟨w.heap.size, 0, none⟩) n n) (w.alloc (.cells M.toArray 29)) := by
  obtain ⟨i0, hi, hz0, hz1, hz2⟩ := info_parts valInfo
  refine ⟨(madeCells (Value.agg #[.int .u8 0, .int .i64 0, .int .i64 0, .int .i64 0]).cells (n * 4)).toList, by rw [Array.length_toList, size_madeCells], fun w => ?_⟩
  have := run_make w 68 29 i0 _ Try.underlying68 hi hz0 .i64 .i64 n n (by omega) (by omega) (by rw [hz2]; omega) (by omega)
  rw [hz1] at this
  exact this
theorem preN_of_take {rows : List BkR} (h : rows = []) : preN rows rows.length = 0 := by subst h; rfl
set_option maxHeartbeats 1600000 in
theorem ptwinm_any {w : World} {A : Option Addr} {c : Nat} {rows : List BkR} (h : MemFew w A c rows) : Calls Try.prog 19 #[.slice A rows.length c] w (SomeMem (mmb rows) w) := by
  have HX := Lib.hid h
  have hlen := h.few
  have HF := Lib.hid (preN_few h.each)
  clear h
  go_enter Try.func19, Try.ntmps19
  go_wp2_with fail
  go_loopw [3, 12] (fun s i wr => ∃ k : Nat, k ≤ rows.length ∧ i = .int .i64 k ∧ s = .int .i64 (preN rows k) ∧ Below w.heap.size w wr) (fun _ i _ => rows.length - (intOf i).toNat)
  case atStart => exact ⟨0, Nat.zero_le _, rfl, rfl, Below.refl _ _⟩
  case round =>
    obtain ⟨k, hk, rfl, rfl, hbel⟩ := hrel
    have HB := Lib.hid hbel
    by_cases hlt : k < rows.length
    · obtain ⟨b, off, hA, hbl, d0, d1, d2, d3, d4⟩ := ((HX.out.on hbel).mem.rows.elem hlt).at_
      subst hA
      have hps := preN_succ hlt
      have hpf := HF.out (k + 1) hlt
      have hql := HX.out.each _ (mem_getD (d := default) hlt)
      generalize rows.getD k default = r at d0 d1 d2 d3 d4 hps hql
      obtain ⟨s, ty, de, al, ca, cc, vs⟩ := r
      simp only at d0 d1 d2 d3 d4 hps hql
      generalize hp1 : preN rows (k + 1) = p1 at hps hpf
      generalize hp0 : preN rows k = p0 at hps
      have HP1 := Lib.hid hp1
      subst hps
      have HBX : Hid (Below wr.heap.size wr (wr.alloc (.cells #[.int .i64 s, .int .i64 ty, .int .i64 de, .bool al, .slice ca vs.length cc] 70))) := Lib.hid ((Below.refl _ _).alloc (Nat.le_refl _) _)
      have HBW := Lib.hid (HB.out.trans (HBX.out.mono HB.out.size))
      have hww : IntKind.i64.wrap ((p0 : Int) + vs.length) = p0 + vs.length := IntWalk.i64_in _ (by omega)
      clear hbel hp1 hp0
      go_wp2_with fail
      go_roundw
      case rel => exact ⟨k + 1, by omega, by go_num, by rw [HP1.out]; go_num, HBW.out⟩
      case measure => simp [intOf]; omega
    · obtain rfl : k = rows.length := by omega
      have hpf := HF.out rows.length (Nat.le_refl _)
      obtain ⟨n, hn⟩ : ∃ n, preN rows rows.length = n := ⟨_, rfl⟩
      rw [hn] at hpf ⊢
      have HN := Lib.hid hn
      obtain ⟨M, hM, hmk⟩ := make_vals n (by omega)
      have HM := Lib.hid hM
      have HCL : Hid (∀ W, Below wr.heap.size wr W → Calls Try.prog 43 #[.slice A rows.length c] W (SomeRowB rows W)) := Lib.hid fun W hb => by
        have hx := (HX.out.on HB.out).on hb
        exact cloneBlks_any hx.mem.hdr hx.mem.rows (Nat.le_refl _) hx.few
      clear hbel hn hM
      go_wp2_with fail
      go_region_with (go_at_call 43; refine (HCL.out _ (by first | exact belowDrewN (Below.refl _ _) _ | exact (belowDrewN (Below.refl _ _) _).alloc (Nat.le_refl _) _)).mono ?_; rintro e w1 ⟨v, rfl, hrow, hb1⟩)
      · generalize hgb : w1.heap.size = gb
        have HB2 : Hid (Below w.heap.size w (w1.alloc (.cells M.toArray 29))) := Lib.hid ((HB.out.drew.trans (hb1.mono HB.out.drew.size)).alloc (Nat.le_trans HB.out.drew.size hb1.size) _)
        have HROW : Hid (World.ownsRow (w1.alloc (.cells M.toArray 29)) w.heap.size 70 5 v rows.length (rows.flatMap BkR.cells5)) := Lib.hid (ownsRow_more (ownsRow_keep hrow ((Below.refl _ _).alloc (Nat.le_refl _) _)) HB.out.drew.size)
        have HBUF : Hid ((w1.alloc (.cells M.toArray 29)).heap[gb]? = some (.cells M.toArray 29 (0, 0))) := Lib.hid (by rw [← hgb]; exact (Blk.new w1 29 M.toArray))
        have HGLO : Hid (w.heap.size ≤ gb) := Lib.hid (by rw [← hgb]; exact Nat.le_trans HB.out.size hb1.size)
        clear hrow hb1 hgb
        rcases HROW.out.2 with ⟨rfl, hz⟩ | ⟨g, cap, cs, rfl, hg, _⟩
        · have HZ := Lib.hid hz
          clear hz
          go_wp2_with fail
          go_loopw [28] (fun i wx => i = .int .i64 0 ∧ Below w.heap.size w wx) (fun _ _ => 0)
          case atStart => exact ⟨rfl, HB2.out⟩
          case round =>
            obtain ⟨rfl, hbx⟩ := hrel
            go_wp2_with fail
            go_ret
            exact ⟨_, [], rfl, OwnBl.nil _ _, by rw [List.eq_nil_of_length_eq_zero HZ.out], hbx⟩
        · have HG := Lib.hid hg
          have HH : Hid (HalfM w (w1.alloc (.cells M.toArray 29)) g cap gb rows rows 0 M) := Lib.hid ⟨rfl, HROW.out, HBUF.out, HGLO.out, by rw [HM.out, ← preN_all, HN.out], fun p hp => by rw [preN_zero] at hp; omega, fun j hj => by omega, fun _ _ => rfl, rfl⟩
          clear hg HROW HBUF
          go_wp2_with fail
          go_loopw [7, 28] (fun s i wx => ∃ (k : Nat) (cur : List BkR) (L : List Value) (q R : Nat), k ≤ rows.length ∧ i = .int .i64 k ∧ s = .slice (some ⟨gb, q, none⟩) R R ∧ R + preN rows k = n ∧ (0 < R → q = preN rows k * 4) ∧ HalfM w wx g cap gb rows cur k L ∧ Below w.heap.size w wx) (fun _ i _ => rows.length - (intOf i).toNat)
          case atStart => exact ⟨0, rows, M, 0, n, Nat.zero_le _, rfl, rfl, rfl, fun _ => rfl, HH.out, HB2.out⟩
          case round =>
            obtain ⟨k, cur, L, q, R, hk, rfl, rfl, hR, hq, hhalf, hbx⟩ := hrel
            have HHF := Lib.hid hhalf
            have HBX := Lib.hid hbx
            have HQ := Lib.hid hq
            have HR := Lib.hid hR
            clear hhalf hbx hq hR HH
            by_cases hlt : k < rows.length
            · have d4 := HHF.out.at_ hlt (j := 4) (by omega)
              have hps := preN_succ hlt
              have hpl := preN_le (rows := rows) (show k + 1 ≤ rows.length from hlt)
              have hok := (HX.out.on HBX.out).mem.row hlt
              have hql := HX.out.each _ (mem_getD (d := default) hlt)
              have hfull := HHF.out.full
              rw [← preN_all, HN.out] at hfull
              rw [HN.out] at hpl
              have hRR := HR.out
              have hRq := HQ.out
              have HBF := Lib.hid HHF.out.buf
              have HS : Hid (∀ w' : World, w'.heap[gb]? = some (.cells (splice L q ((rows.getD k default).cells.flatMap Vl.cells4)).toArray 29 (0, 0)) → wr.grownBy w' (some gb) → w'.cell? ⟨g, k * 5 + 4, none⟩ = some ((rows.getD k default).cells5.getD 4 undef) ∧ w'.frozen? ⟨g, k * 5 + 4, none⟩ = false ∧
                  ∃ cur' L', HalfM w (w'.setCell ⟨g, k * 5 + 4, none⟩ (.slice (some ⟨gb, q, none⟩) (rows.getD k default).cells.length (rows.getD k default).cells.length)) g cap gb rows cur' (k + 1) L') := Lib.hid fun w' h1 h2 => by
                obtain ⟨a1, a2, a3⟩ := HHF.out.step hlt (q := q) (fun hn => hRq (by omega)) h1 h2
                exact ⟨a1, a2, _, _, a3⟩
              generalize rows.getD k default = r at d4 hps hok hql HS
              obtain ⟨s, ty, de, al, ca, cc, vs⟩ := r
              simp only [BkR.cells5, List.getD_cons_zero, List.getD_cons_succ] at d4 hps hql
              have hle : vs.length ≤ R := by omega
              have HV := Lib.hid hok.vals
              have HFIT : Hid (0 < vs.length → q + vs.length * 4 ≤ L.length) := Lib.hid fun hn => by rw [hfull, hRq (by omega)]; omega
              have HPS := Lib.hid hps
              have hRn : R ≤ 1000000 := by omega
              clear hps hpl hok hfull hRR hRq
              go_wp2_with ((with_reducible show wpList _ _ _ _ _ _); refine wpList_copy_vals (o := ⟨some 37, _, _, _, _, _⟩) rfl (.tmp 31) (.tmp 36) rfl (some ⟨gb, q, none⟩) ca R R vs.length cc rfl rfl gb q L HBF.out vs rfl hle (fun _ => rfl) HV.out HFIT.out ?_; intro w3 hg3 hgr3; refine pause ?_)
              have HGR := Lib.hid hgr3
              obtain ⟨s1, s2, cur', L', s3⟩ := HS.out w3 hg3.out hgr3
              simp only [BkR.cells5, List.getD_cons_zero, List.getD_cons_succ] at s1
              have HS3 := Lib.hid s3
              have HB3 := Lib.hid (HBX.out.grown hgr3 HBX.out.size (fun k hk => by have : gb = k := Option.some.inj hk; have := HGLO.out; omega))
              have HB4 := Lib.hid (HB3.out.setCell (p := ⟨g, k * 5 + 4, none⟩) HG.out (.slice (some ⟨gb, q, none⟩) vs.length vs.length))
              clear hg3 hgr3 s3 d4
              refine resume ?_
              by_cases hRm : R = vs.length
              · subst hRm
                go_wp2_with fail
                go_region_held3 (fun w' => True) (go_keep) (fail)
                all_goals
                  go_wp2_with fail
                  go_roundw
                  case rel => exact ⟨k + 1, cur', L', q, 0, by omega, by go_num, by simp, by rw [HPS.out, ← HR.out]; omega, fun h => by omega, HS3.out.keep (Below.refl _ _).drew, HB4.out.drew⟩
                  case measure => simp [intOf]; omega
              · have hRm2 : ¬ vs.length = R := fun e => hRm e.symm
                go_wp2_with fail
                go_region_held3 (fun w' => True) (go_keep) (fail)
                all_goals
                  go_wp2_with fail
                  go_roundw
                  case rel => exact ⟨k + 1, cur', L', q + vs.length * 4, R - vs.length, by omega, by go_num, by simp, by rw [HPS.out, ← HR.out]; omega, fun h => by rw [HQ.out (by omega), HPS.out]; omega, HS3.out.keep (Below.refl _ _).drew, HB4.out.drew⟩
                  case measure => simp [intOf]; omega
            · go_wp2_with fail
              go_ret
              exact ⟨_, cur, rfl, HHF.out.all (by omega) HX.out.each, HHF.out.same, HBX.out⟩
      · generalize hgb : wr.heap.size = gb
        have HB2 : Hid (Below w.heap.size w w1) := Lib.hid ((HB.out.alloc HB.out.size (.cells M.toArray 29)).drew.trans (hb1.mono (HB.out.alloc HB.out.size (.cells M.toArray 29)).drew.size))
        have HROW : Hid (World.ownsRow w1 w.heap.size 70 5 v rows.length (rows.flatMap BkR.cells5)) := Lib.hid (ownsRow_more hrow (by have h9 := HB.out.size; show w.heap.size ≤ (wr.alloc _).heap.size; rw [World.size_alloc]; omega))
        have HBUF : Hid (w1.heap[gb]? = some (.cells M.toArray 29 (0, 0))) := Lib.hid (by rw [← hgb]; exact ((Blk.new wr 29 M.toArray).drew.beneath hb1))
        have HGLO : Hid (w.heap.size ≤ gb) := Lib.hid (by rw [← hgb]; exact HB.out.size)
        clear hrow hb1 hgb
        rcases HROW.out.2 with ⟨rfl, hz⟩ | ⟨g, cap, cs, rfl, hg, _⟩
        · have HZ := Lib.hid hz
          clear hz
          go_wp2_with fail
          go_loopw [28] (fun i wx => i = .int .i64 0 ∧ Below w.heap.size w wx) (fun _ _ => 0)
          case atStart => exact ⟨rfl, HB2.out⟩
          case round =>
            obtain ⟨rfl, hbx⟩ := hrel
            go_wp2_with fail
            go_ret
            exact ⟨_, [], rfl, OwnBl.nil _ _, by rw [List.eq_nil_of_length_eq_zero HZ.out], hbx⟩
        · have HG := Lib.hid hg
          have HH : Hid (HalfM w w1 g cap gb rows rows 0 M) := Lib.hid ⟨rfl, HROW.out, HBUF.out, HGLO.out, by rw [HM.out, ← preN_all, HN.out], fun p hp => by rw [preN_zero] at hp; omega, fun j hj => by omega, fun _ _ => rfl, rfl⟩
          clear hg HROW HBUF
          go_wp2_with fail
          go_loopw [7, 28] (fun s i wx => ∃ (k : Nat) (cur : List BkR) (L : List Value) (q R : Nat), k ≤ rows.length ∧ i = .int .i64 k ∧ s = .slice (some ⟨gb, q, none⟩) R R ∧ R + preN rows k = n ∧ (0 < R → q = preN rows k * 4) ∧ HalfM w wx g cap gb rows cur k L ∧ Below w.heap.size w wx) (fun _ i _ => rows.length - (intOf i).toNat)
          case atStart => exact ⟨0, rows, M, 0, n, Nat.zero_le _, rfl, rfl, rfl, fun _ => rfl, HH.out, HB2.out⟩
          case round =>
            obtain ⟨k, cur, L, q, R, hk, rfl, rfl, hR, hq, hhalf, hbx⟩ := hrel
            have HHF := Lib.hid hhalf
            have HBX := Lib.hid hbx
            have HQ := Lib.hid hq
            have HR := Lib.hid hR
            clear hhalf hbx hq hR HH
            by_cases hlt : k < rows.length
            · have d4 := HHF.out.at_ hlt (j := 4) (by omega)
              have hps := preN_succ hlt
              have hpl := preN_le (rows := rows) (show k + 1 ≤ rows.length from hlt)
              have hok := (HX.out.on HBX.out).mem.row hlt
              have hql := HX.out.each _ (mem_getD (d := default) hlt)
              have hfull := HHF.out.full
              rw [← preN_all, HN.out] at hfull
              rw [HN.out] at hpl
              have hRR := HR.out
              have hRq := HQ.out
              have HBF := Lib.hid HHF.out.buf
              have HS : Hid (∀ w' : World, w'.heap[gb]? = some (.cells (splice L q ((rows.getD k default).cells.flatMap Vl.cells4)).toArray 29 (0, 0)) → wr.grownBy w' (some gb) → w'.cell? ⟨g, k * 5 + 4, none⟩ = some ((rows.getD k default).cells5.getD 4 undef) ∧ w'.frozen? ⟨g, k * 5 + 4, none⟩ = false ∧
                  ∃ cur' L', HalfM w (w'.setCell ⟨g, k * 5 + 4, none⟩ (.slice (some ⟨gb, q, none⟩) (rows.getD k default).cells.length (rows.getD k default).cells.length)) g cap gb rows cur' (k + 1) L') := Lib.hid fun w' h1 h2 => by
                obtain ⟨a1, a2, a3⟩ := HHF.out.step hlt (q := q) (fun hn => hRq (by omega)) h1 h2
                exact ⟨a1, a2, _, _, a3⟩
              generalize rows.getD k default = r at d4 hps hok hql HS
              obtain ⟨s, ty, de, al, ca, cc, vs⟩ := r
              simp only [BkR.cells5, List.getD_cons_zero, List.getD_cons_succ] at d4 hps hql
              have hle : vs.length ≤ R := by omega
              have HV := Lib.hid hok.vals
              have HFIT : Hid (0 < vs.length → q + vs.length * 4 ≤ L.length) := Lib.hid fun hn => by rw [hfull, hRq (by omega)]; omega
              have HPS := Lib.hid hps
              have hRn : R ≤ 1000000 := by omega
              clear hps hpl hok hfull hRR hRq
              go_wp2_with ((with_reducible show wpList _ _ _ _ _ _); refine wpList_copy_vals (o := ⟨some 37, _, _, _, _, _⟩) rfl (.tmp 31) (.tmp 36) rfl (some ⟨gb, q, none⟩) ca R R vs.length cc rfl rfl gb q L HBF.out vs rfl hle (fun _ => rfl) HV.out HFIT.out ?_; intro w3 hg3 hgr3; refine pause ?_)
              have HGR := Lib.hid hgr3
              obtain ⟨s1, s2, cur', L', s3⟩ := HS.out w3 hg3.out hgr3
              simp only [BkR.cells5, List.getD_cons_zero, List.getD_cons_succ] at s1
              have HS3 := Lib.hid s3
              have HB3 := Lib.hid (HBX.out.grown hgr3 HBX.out.size (fun k hk => by have : gb = k := Option.some.inj hk; have := HGLO.out; omega))
              have HB4 := Lib.hid (HB3.out.setCell (p := ⟨g, k * 5 + 4, none⟩) HG.out (.slice (some ⟨gb, q, none⟩) vs.length vs.length))
              clear hg3 hgr3 s3 d4
              refine resume ?_
              by_cases hRm : R = vs.length
              · subst hRm
                go_wp2_with fail
                go_region_held3 (fun w' => True) (go_keep) (fail)
                all_goals
                  go_wp2_with fail
                  go_roundw
                  case rel => exact ⟨k + 1, cur', L', q, 0, by omega, by go_num, by simp, by rw [HPS.out, ← HR.out]; omega, fun h => by omega, HS3.out.keep (Below.refl _ _).drew, HB4.out.drew⟩
                  case measure => simp [intOf]; omega
              · have hRm2 : ¬ vs.length = R := fun e => hRm e.symm
                go_wp2_with fail
                go_region_held3 (fun w' => True) (go_keep) (fail)
                all_goals
                  go_wp2_with fail
                  go_roundw
                  case rel => exact ⟨k + 1, cur', L', q + vs.length * 4, R - vs.length, by omega, by go_num, by simp, by rw [HPS.out, ← HR.out]; omega, fun h => by rw [HQ.out (by omega), HPS.out]; omega, HS3.out.keep (Below.refl _ _).drew, HB4.out.drew⟩
                  case measure => simp [intOf]; omega
            · go_wp2_with fail
              go_ret
              exact ⟨_, cur, rfl, HHF.out.all (by omega) HX.out.each, HHF.out.same, HBX.out⟩
end Go.Proofs.Ythddacnnhmcoaaa
