/-
  The program's answers for memories: Check, asked; slices.ContainsFunc at values.
-/
import Derived.Test.YthddacnnhmcoaaaMmProg1
namespace Go.Proofs.Ythddacnnhmcoaaa
set_option linter.unusedVariables false
set_option linter.unusedSimpArgs false
open Go.ChangeShapes Go.WideShapes Go.ChangeAt Go.RowKit

/-- A function value that answers by a predicate, wherever a world is as w was. -/
structure AnswersBy (w : World) (F : FuncId) (cap : Array Value) (xs : List Vl) (P : Vl → Bool) : Prop where
  enters : Enters F
  calls : ∀ (W : World) (v : Vl), Below w.heap.size w W → v ∈ xs → Calls Try.prog F (#[valV v.k v.n v.b v.t] ++ cap) W fun e w' => e = .returned (.bool (P v)) ∧ Below W.heap.size W w'
def SomeIndex (b : Bool) (w : World) (e : Ending) (w' : World) : Prop := ∃ r : Int, e = .returned (.int .i64 r) ∧ decide (0 ≤ r) = b ∧ Below w.heap.size w w'
theorem any_of_none {P : Vl → Bool} {xs : List Vl} {k : Nat} (h : AllTo (fun x => !P x) xs k) (hk : xs.length ≤ k) : xs.any P = false := by
  have := h.done hk
  rw [List.any_eq_not_all_not, this]; rfl
theorem any_of_some {P : Vl → Bool} {xs : List Vl} {k : Nat} (hk : k < xs.length) (hp : P (xs.getD k default) = true) : xs.any P = true := by
  rw [List.any_eq_true]
  exact ⟨_, mem_getD (d := default) hk, hp⟩
theorem indexFunc_any {w : World} {lo : Nat} {A : Option Addr} {c : Nat} {xs : List Vl} (hh : Hdr A xs.length c) (hx : ValsAt w lo w.heap.size A xs) (F : FuncId) (cap : Array Value) (P : Vl → Bool) (hf : AnswersBy w F cap xs P) :
    Calls Try.prog 63 #[.slice A xs.length c, .func (.func F) #[] cap] w (SomeIndex (xs.any P) w) := by
  have hl := hh.le
  have HX := Lib.hid hx
  have HF := Lib.hid hf
  have eg := hf.enters
  unfold Enters at eg
  clear hx hh hf
  go_enter Try.func63, Try.ntmps63
  go_wp2_with fail
  go_loopw [8] (fun i wr => ∃ k : Nat, k ≤ xs.length ∧ i = .int .i64 k ∧ AllTo (fun x => !P x) xs k ∧ Below w.heap.size w wr) (fun i _ => xs.length - (intOf i).toNat)
  case atStart => exact ⟨0, Nat.zero_le _, rfl, AllTo.zero _ _, Below.refl _ _⟩
  case round =>
    obtain ⟨k, hk, rfl, hall, hbel⟩ := hrel
    have HA := Lib.hid hall
    have HB := Lib.hid hbel
    clear hall hbel
    by_cases hlt : k < xs.length
    · obtain ⟨b, off, x, rfl, hbk, v0, v1, v2, v3, HE⟩ := (HX.out.keep HB.out).elem hlt
      have hxm : x ∈ xs := by have := mem_getD (d := (default : Vl)) hlt; rwa [HE.out] at this
      have HC := Lib.hid (HF.out.calls wr x HB.out hxm)
      clear hxm
      cases hp : P x with
      | true =>
        rw [hp] at HC
        have HP := Lib.hid hp
        clear hp
        go_wp2_with fail
        refine HC.out.mono ?_
        rintro e w1 ⟨rfl, hb1⟩
        have HB1 := Lib.hid (HB.out.trans (hb1.mono HB.out.size))
        clear hb1
        go_wp2_with fail
        go_ret
        exact ⟨_, rfl, by rw [any_of_some hlt (by rw [HE.out]; exact HP.out)]; simp, HB1.out⟩
      | false =>
        rw [hp] at HC
        have HP := Lib.hid hp
        clear hp
        go_wp2_with fail
        refine HC.out.mono ?_
        rintro e w1 ⟨rfl, hb1⟩
        have HB1 := Lib.hid (HB.out.trans (hb1.mono HB.out.size))
        clear hb1
        go_wp2_with fail
        go_roundw
        case rel => exact ⟨k + 1, by omega, by go_num, HA.out.step (d := default) hlt (by rw [HE.out, HP.out]; rfl), HB1.out⟩
        case measure => simp [intOf]; omega
    · go_wp2_with fail
      go_ret
      exact ⟨_, rfl, by rw [any_of_none HA.out (by omega)]; rfl, HB.out⟩
theorem containsFunc_any {w : World} {lo : Nat} {A : Option Addr} {c : Nat} {xs : List Vl} (hh : Hdr A xs.length c) (hx : ValsAt w lo w.heap.size A xs) (F : FuncId) (cap : Array Value) (P : Vl → Bool) (hf : AnswersBy w F cap xs P) :
    Calls Try.prog 48 #[.slice A xs.length c, .func (.func F) #[] cap] w fun e w' => e = .returned (.bool (xs.any P)) ∧ Below w.heap.size w w' := by
  have HI := Lib.hid (indexFunc_any hh hx F cap P hf)
  clear hh hx hf
  go_enter Try.func48, Try.ntmps48
  go_wp2_with fail
  refine HI.out.mono ?_
  rintro e w1 ⟨r, rfl, hr, hb1⟩
  have HR := Lib.hid hr
  have HB := Lib.hid hb1
  clear hr hb1
  go_wp2_with fail
  go_ret
  exact ⟨ret_bool HR.out, HB.out⟩

theorem enters_check1 : Enters 51 := fun _ _ => by kernel_rfl
section
variable {w : World} {A : Option Addr} {c : Nat} {rows : List BkR}
theorem check1_any {g : Nat} (h : MemIn w A c rows) (hg : w.cell? ⟨g, 0, none⟩ = some (.slice A rows.length c)) (v : Vl) :
    Calls Try.prog 51 #[valV v.k v.n v.b v.t, .pointer (some ⟨g, 0, none⟩)] w fun e w' => e = .returned (.bool (!isV (mmb rows) v)) ∧ Below w.heap.size w w' := by
  have hb0 : Below w.heap.size w (w.alloc (.cells #[.int .u8 v.k, .int .i64 v.n, .int .i64 v.b, .int .i64 v.t] 29)) := (Below.refl _ _).alloc (Nat.le_refl _) _
  have HB0 := Lib.hid hb0
  have HC := Lib.hid (pis_any (h.on hb0) v)
  have zg := World.block_lt_of_cell? _ _ hg
  simp only at zg
  clear h hb0
  go_enter Try.func51, Try.ntmps51
  go_wp2_with fail
  refine HC.out.mono ?_
  rintro e w1 ⟨rfl, hb⟩
  have HB1 := Lib.hid (HB0.out.trans (hb.mono HB0.out.size))
  clear hb
  go_wp2_with fail
  go_ret
  exact ⟨rfl, HB1.out⟩
def mayTo (rows : List BkR) (j : Nat) : Bool := decide (rows.length ≤ 4096) && ((mmb rows).take j).all (okB (mmb rows))
theorem mayTo_succ {j : Nat} (h : j < rows.length) : mayTo rows (j + 1) = (mayTo rows j && okB (mmb rows) (rows.getD j default).data) := by
  unfold mayTo
  rw [take_succ_getD (d := default) (by rw [mmb_len]; exact h), mmb_at h, List.all_append]
  simp [Bool.and_assoc]
theorem mayTo_all : mayTo rows rows.length = mayM (mmb rows) := by
  unfold mayTo mayM
  rw [List.take_of_length_le (by rw [mmb_len]; omega), mmb_len]
set_option maxHeartbeats 1600000 in
theorem pcheckm_any (h : MemIn w A c rows) : Calls Try.prog 24 #[.slice A rows.length c] w fun e w' => e = .returned (.int .i64 (checkM (mmb rows))) ∧ Below w.heap.size w w' := by
  have hl := h.len
  have hb0 : Below w.heap.size w (w.alloc (.cells #[.slice A rows.length c] 22)) := (Below.refl _ _).alloc (Nat.le_refl _) _
  have HB0 := Lib.hid hb0
  have HX := Lib.hid (h.on hb0)
  have HK := Lib.hid (Blk.new w 22 #[.slice A rows.length c])
  have HMT : Hid (∀ j, mayTo rows j = (decide (rows.length ≤ 4096) && ((mmb rows).take j).all (okB (mmb rows)))) := Lib.hid fun _ => rfl
  have HCK : Hid (∀ b, mayTo rows rows.length = b → checkM (mmb rows) = if b then 0 else 8) := Lib.hid (by rintro b rfl; rw [mayTo_all]; rfl)
  obtain ⟨b0, hb00⟩ : ∃ b0, mayTo rows 0 = b0 := ⟨_, rfl⟩
  have h0n : decide (rows.length ≤ 4096) = b0 := by rw [← hb00]; unfold mayTo; simp
  have h0i : decide ((rows.length : Int) ≤ 4096) = b0 := by rw [← h0n, decide_eq_decide]; omega
  have HM0 := Lib.hid hb00
  have HX0 := Lib.hid h
  clear h hb0 hb00
  go_enter Try.func24, Try.ntmps24
  go_wp2_with fail
  go_loopw [3, 11] (fun m i wr => ∃ j : Nat, j ≤ rows.length ∧ i = .int .i64 j ∧ Hid (m = .bool (mayTo rows j)) ∧ Blk wr w.heap.size 22 #[.slice A rows.length c] ∧ Below w.heap.size w wr) (fun _ i _ => rows.length - (intOf i).toNat)
  case atStart => exact ⟨0, Nat.zero_le _, rfl, Lib.hid (by rw [HM0.out]), HK.out, HB0.out⟩
  case round =>
    clear h0n h0i
    obtain ⟨j, hj, rfl, HMJ, hblk, hbel⟩ := hrel
    have HBK := Lib.hid hblk
    have HB := Lib.hid hbel
    have zk := hblk.lt
    have kk := hblk.cells 0
    obtain ⟨mj, hmj⟩ : ∃ mj, mayTo rows j = mj := ⟨_, rfl⟩
    have HMV := Lib.hid hmj
    rw [hmj] at HMJ
    obtain rfl := HMJ.out
    clear HMJ hmj
    by_cases hlt : j < rows.length
    · have hXw := HX0.out.on hbel
      obtain ⟨bb, off, hA, hbk, c0, c1, c2, c3, c4⟩ := (hXw.rows.elem hlt).at_
      subst hA
      have hr := hXw.row hlt
      have HXW := Lib.hid hXw
      have HSU : Hid (mayTo rows (j + 1) = (mj && okB (mmb rows) (rows.getD j default).data)) := Lib.hid (by rw [mayTo_succ hlt, HMV.out])
      clear hXw hbel hblk
      generalize rows.getD j default = r at c0 c1 c2 c3 c4 hr HSU
      obtain ⟨s, ty, de, al, ca, cc, vs⟩ := r
      simp only at c0 c1 c2 c3 c4
      have hlr := hr.hdr.le
      simp only at hlr
      have HR := Lib.hid hr
      have hbx : Below wr.heap.size wr (wr.alloc (.cells #[.int .i64 s, .int .i64 ty, .int .i64 de, .bool al, .slice ca vs.length cc] 70)) := (Below.refl _ _).alloc (Nat.le_refl _) _
      have HBX := Lib.hid hbx
      have HKX := Lib.hid (HBK.out.beneath hbx)
      have HBW := Lib.hid (HB.out.trans (hbx.mono HB.out.size))
      clear hr hbx
      cases mj with
      | false =>
        have HS0 : Hid (mayTo rows (j + 1) = false) := Lib.hid (by rw [HSU.out]; rfl)
        go_wp2_with fail
        go_roundw
        case rel => exact ⟨j + 1, by omega, by go_num, Lib.hid (by rw [HS0.out]), HKX.out, HBW.out⟩
        case measure => simp [intOf]; omega
      | true =>
        have HOK : Hid (okB (mmb rows) ⟨s, ty, de, al, vs⟩ = (decide (0 ≤ s ∧ 0 ≤ ty ∧ 0 ≤ de ∧ 1 ≤ vs.length ∧ vs.length ≤ 32) && vs.all (isV (mmb rows)))) := Lib.hid okB_num
        by_cases hnum : 0 ≤ s ∧ 0 ≤ ty ∧ 0 ≤ de ∧ 1 ≤ vs.length ∧ vs.length ≤ 32
        · have HS1 : Hid (mayTo rows (j + 1) = !(vs.any fun v => !isV (mmb rows) v)) := Lib.hid (by
            rw [HSU.out]
            show (true && okB _ ⟨s, ty, de, al, vs⟩) = _
            rw [HOK.out, decide_eq_true hnum, Bool.true_and, Bool.true_and, List.any_eq_not_all_not, Bool.not_not]
            simp)
          obtain ⟨n1, n2, n3, n4, n5⟩ := hnum
          have hA : AnswersBy (wr.alloc (.cells #[.int .i64 s, .int .i64 ty, .int .i64 de, .bool al, .slice ca vs.length cc] 70)) 51 #[.pointer (some ⟨w.heap.size, 0, none⟩)] vs (fun v => !isV (mmb rows) v) :=
            ⟨enters_check1, fun W v hb _ => check1_any (HXW.out.on (HBX.out.trans (hb.mono HBX.out.size))) ((HKX.out.beneath hb).cells 0) v⟩
          have hcf := containsFunc_any (lo := 0) HR.out.hdr ((HR.out.vals.keep HBX.out).more (Nat.le_refl _) HBX.out.size) _ _ _ hA
          obtain ⟨av, hav⟩ : ∃ av, (vs.any fun v => !isV (mmb rows) v) = av := ⟨_, rfl⟩
          have hcf2 : Calls Try.prog 48 #[.slice ca vs.length cc, .func (.func 51) #[] #[.pointer (some ⟨w.heap.size, 0, none⟩)]] (wr.alloc (.cells #[.int .i64 s, .int .i64 ty, .int .i64 de, .bool al, .slice ca vs.length cc] 70)) fun e w' => e = .returned (.bool av) ∧ Below (wr.alloc (.cells #[.int .i64 s, .int .i64 ty, .int .i64 de, .bool al, .slice ca vs.length cc] 70)).heap.size (wr.alloc (.cells #[.int .i64 s, .int .i64 ty, .int .i64 de, .bool al, .slice ca vs.length cc] 70)) w' := by rw [← hav]; exact hcf
          have HCF := Lib.hid hcf2
          rw [hav] at HS1
          clear hA hcf hcf2 hav
          go_wp2_with fail
          refine HCF.out.mono ?_
          rintro e w1 ⟨rfl, hb⟩
          have HK2 := Lib.hid (HKX.out.beneath hb)
          have HB2 := Lib.hid (HBW.out.trans (hb.mono HBW.out.size))
          clear hb
          go_wp2_with fail
          go_roundw
          case rel => exact ⟨j + 1, by omega, by go_num, Lib.hid (by rw [HS1.out]), HK2.out, HB2.out⟩
          case measure => simp [intOf]; omega
        · have HS0 : Hid (mayTo rows (j + 1) = false) := Lib.hid (by
            rw [HSU.out]
            show (true && okB _ ⟨s, ty, de, al, vs⟩) = _
            rw [HOK.out, decide_eq_false hnum]; rfl)
          have HN := Lib.hid hnum
          clear hnum
          go_wp2_with fail
          all_goals first
            | (exfalso; have := HN.out; omega)
            | (go_roundw
               case rel => exact ⟨j + 1, by omega, by go_num, Lib.hid (by rw [HS0.out]), HKX.out, HBW.out⟩
               case measure => simp [intOf]; omega)
    · have hjn : j = rows.length := by omega
      have HCV := Lib.hid (HCK.out mj (by rw [← hjn]; exact HMV.out))
      clear hjn hbel hblk
      cases mj
      all_goals
        go_wp2_with fail
        go_ret
        exact ⟨ret_i64 (by rw [HCV.out]; rfl), HB.out⟩
theorem pcheckm_is (h : MemIn w A c rows) {e0 : Int} (he : checkM (mmb rows) = e0) : Calls Try.prog 24 #[.slice A rows.length c] w fun e w' => e = .returned (.int .i64 e0) ∧ Below w.heap.size w w' := he ▸ pcheckm_any h

def askedM (m : List Bk) (p : Vl) (null : Bool) : Int := if mayM m = false then 8 else if ptrM m p = 140 ∧ null = true then 0 else ptrM m p
set_option maxHeartbeats 800000 in
theorem paskedm_any (h : MemIn w A c rows) (p : Vl) (null : Bool) {e0 : Int} (he : askedM (mmb rows) p null = e0) : Calls Try.prog 55 #[.slice A rows.length c, valV p.k p.n p.b p.t, .bool null] w fun e w' => e = .returned (.int .i64 e0) ∧ Below w.heap.size w w' := by
  have hb0 : Below w.heap.size w (w.alloc (.cells #[.int .u8 p.k, .int .i64 p.n, .int .i64 p.b, .int .i64 p.t] 29)) := (Below.refl _ _).alloc (Nat.le_refl _) _
  have HB0 := Lib.hid hb0
  have HX := Lib.hid (h.on hb0)
  have HK := Lib.hid (Blk.new w 29 #[.int .u8 p.k, .int .i64 p.n, .int .i64 p.b, .int .i64 p.t])
  obtain ⟨mb, hmb⟩ : ∃ mb, mayM (mmb rows) = mb := ⟨_, rfl⟩
  have HC := Lib.hid (pcheckm_any HX.out)
  unfold checkM at HC
  unfold askedM at he
  rw [hmb] at HC he
  clear h hb0
  cases mb with
  | false =>
    obtain rfl : e0 = 8 := by rw [← he]; rfl
    clear he hmb
    go_enter Try.func55, Try.ntmps55
    go_wp2_with fail
    refine HC.out.mono ?_
    rintro e w1 ⟨rfl, hb⟩
    have HB1 := Lib.hid (HB0.out.trans (hb.mono HB0.out.size))
    clear hb
    go_wp2_with fail
    go_ret
    exact ⟨rfl, HB1.out⟩
  | true =>
    rw [if_neg (by simp)] at he
    by_cases hk : p.k = 2
    · have hkk : (p.k != 2) = false := by simpa using hk
      cases hiv : isV (mmb rows) p with
      | false =>
        have hp2 : ptrM (mmb rows) p = 2 := by unfold ptrM; rw [if_neg (by rw [hiv]; simp)]
        obtain rfl : e0 = 2 := by rw [← he, hp2, if_neg (by simp)]
        have HIV := Lib.hid hiv
        clear he hmb hk hp2 hiv
        go_enter Try.func55, Try.ntmps55
        go_wp2_with fail
        refine HC.out.mono ?_
        rintro e w1 ⟨rfl, hb⟩
        have kb := HK.out.beneath hb
        have k0 := kb.cells 0
        have k1 := kb.cells 1
        have k2 := kb.cells 2
        have k3 := kb.cells 3
        have HB1 := Lib.hid (HB0.out.trans (hb.mono HB0.out.size))
        have HC2 := Lib.hid (pis_is (HX.out.on hb) p HIV.out)
        clear hb kb
        go_wp2_with fail
        refine HC2.out.mono ?_
        rintro e w2 ⟨rfl, hb⟩
        have HB2 := Lib.hid (HB1.out.trans (hb.mono HB1.out.size))
        clear hb
        go_wp2_with fail
        go_ret
        exact ⟨rfl, HB2.out⟩
      | true =>
        have hp2 : ptrM (mmb rows) p = if p.b = 0 then 140 else 0 := by unfold ptrM; rw [if_pos ⟨hk, hiv⟩]
        have HIV := Lib.hid hiv
        obtain ⟨bz, hbz⟩ : ∃ bz, (p.b == 0) = bz := ⟨_, rfl⟩
        have he2 : e0 = if bz then (if null then 0 else 140) else 0 := by
          rw [← he, hp2]
          by_cases h0 : p.b = 0
          · have : bz = true := by rw [← hbz]; simpa using h0
            rw [this, if_pos h0]
            cases null <;> simp
          · have : bz = false := by rw [← hbz]; simpa using h0
            rw [this, if_neg h0]
            simp
        have HE2 := Lib.hid he2
        clear he hmb hk hp2 hiv he2
        go_enter Try.func55, Try.ntmps55
        go_wp2_with fail
        refine HC.out.mono ?_
        rintro e w1 ⟨rfl, hb⟩
        have kb := HK.out.beneath hb
        have k0 := kb.cells 0
        have k1 := kb.cells 1
        have k2 := kb.cells 2
        have k3 := kb.cells 3
        have HK1 := Lib.hid kb
        have HB1 := Lib.hid (HB0.out.trans (hb.mono HB0.out.size))
        have HC2 := Lib.hid (pis_is (HX.out.on hb) p HIV.out)
        clear hb kb
        go_wp2_with fail
        refine HC2.out.mono ?_
        rintro e w2 ⟨rfl, hb⟩
        have j2 : w2.cell? ⟨w.heap.size, 2, none⟩ = some (.int .i64 p.b) := (HK1.out.beneath hb).cells 2
        have HB2 := Lib.hid (HB1.out.trans (hb.mono HB1.out.size))
        clear hb k0 k1 k2 k3
        cases bz
        all_goals cases null
        all_goals
          go_wp2_with fail
          go_ret
          exact ⟨ret_i64 (by rw [HE2.out]; rfl), HB2.out⟩
    · have hkk : (p.k != 2) = true := by simpa using hk
      have hp2 : ptrM (mmb rows) p = 2 := by unfold ptrM; rw [if_neg (fun h => hk h.1)]
      obtain rfl : e0 = 2 := by rw [← he, hp2, if_neg (by simp)]
      clear he hmb hk hp2
      go_enter Try.func55, Try.ntmps55
      go_wp2_with fail
      refine HC.out.mono ?_
      rintro e w1 ⟨rfl, hb⟩
      have k0 : w1.cell? ⟨w.heap.size, 0, none⟩ = some (.int .u8 p.k) := (HK.out.beneath hb).cells 0
      have HB1 := Lib.hid (HB0.out.trans (hb.mono HB0.out.size))
      clear hb
      go_wp2_with fail
      go_ret
      exact ⟨rfl, HB1.out⟩
end
end Go.Proofs.Ythddacnnhmcoaaa
