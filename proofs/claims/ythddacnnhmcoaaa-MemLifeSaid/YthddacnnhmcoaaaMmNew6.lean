/-
  The program's New.
-/
import Derived.Test.YthddacnnhmcoaaaMmNew5
import Derived.Test.YthddacnnhmcoaaaMmProg2
import Derived.Test.YthddacnnhmcoaaaMmTwinP
import Derived.Laws.Cover1
namespace Go.Proofs.Ythddacnnhmcoaaa
set_option linter.unusedVariables false
set_option linter.unusedSimpArgs false
open Go.ChangeShapes Go.WideShapes Go.ChangeAt Go.RowKit

theorem OwnVals.far {w : World} {lo : Nat} {v : Value} {vs : List Vl} (h : OwnVals w lo v vs) {p : Addr} (hp : p.block < lo) (u : Value) : OwnVals (w.setCell p u) lo v vs := by
  refine ⟨h.1, ?_⟩
  rcases h.2 with h1 | ⟨g, cap, cur, h1, h2, h3, h4⟩
  · exact .inl h1
  · exact .inr ⟨g, cap, cur, h1, h2, (Below.heap_setCell w p u g (by omega)).trans h3, h4⟩
theorem kind_no {k : Int} (h : kindOk k = false) : firstK k = 0 ∧ firstE k = 2 := by
  unfold kindOk at h
  simp only [Bool.and_eq_false_iff, decide_eq_false_iff_not] at h
  unfold firstK firstE
  rw [if_neg (by omega), if_neg (by omega)]
  exact ⟨rfl, rfl⟩
theorem min3_nn {x y z : Int} (hx : 0 ≤ x) (hy : 0 ≤ y) (hz : 0 ≤ z) : ¬ (if z < (if y < x then y else x) then z else (if y < x then y else x)) < 0 := by
  by_cases h1 : y < x
  · rw [if_pos h1]
    by_cases h2 : z < y
    · rw [if_pos h2]; omega
    · rw [if_neg h2]; omega
  · rw [if_neg h1]
    by_cases h2 : z < x
    · rw [if_pos h2]; omega
    · rw [if_neg h2]; omega
theorem min3_neg {x y z : Int} (h : x < 0 ∨ y < 0 ∨ z < 0) : (if z < (if y < x then y else x) then z else (if y < x then y else x)) < 0 := by
  by_cases h1 : y < x
  · rw [if_pos h1]
    by_cases h2 : z < y
    · rw [if_pos h2]; omega
    · rw [if_neg h2]; omega
  · rw [if_neg h1]
    by_cases h2 : z < x
    · rw [if_pos h2]; omega
    · rw [if_neg h2]; omega
/-- The least of three, its value a letter. -/
theorem wpList_min3 {P : Program} {w : World} {ops : Array Oper} {rest : List Oper} {o : Oper} {a : Act} {Q : Exit → Act → World → Prop} (hgd : o.guard = none) (x y z : Operand) (t : TypeId)
    (ho : o.op = .call { callee := .builtin .min, args := #[x, y, z], argTypes := #[t, t, t] }) (k : IntKind) (i j l : Int) (hx : a.eval x = .int k i) (hy : a.eval y = .int k j) (hz : a.eval z = .int k l) (M : Int)
    (hM : M = if l < (if j < i then j else i) then l else (if j < i then j else i)) (h : wpList P ops Q rest (a.put o.dst (.int k M)) w) : wpList P ops Q (o :: rest) a w :=
  wpList_plain hgd fun _ hK => by
    unfold Oper.wp execOp
    simp only [ho, resolve, invoke, builtin, Sem.run_bind, Sem.run_pure, Result.andThen_ok, List.map_toArray, List.map_cons, List.map_nil, hx, hy, hz, run_min_int3, ← hM]
    exact hK _ _ h
/-- A memory's twin, made somewhere behind w. -/
def TwinAt2 (f : FuncId) (w : World) (rows : List BkR) (A : Option Addr) (c : Nat) : Prop :=
  ∀ W0, Below w.heap.size w W0 → Calls Try.prog f #[.slice A rows.length c] W0 fun e w4 => ∃ v rows2, e = .returned v ∧ OwnBl w4 w.heap.size v rows2 ∧ mmb rows2 = mmb rows ∧ Below w.heap.size w w4 ∧ w.heap.size ≤ w4.heap.size ∧ (∀ k, k < W0.heap.size → w4.heap[k]? = W0.heap[k]?)
theorem TwinAt2.of {f : FuncId} {w : World} {rows : List BkR} {A : Option Addr} {c : Nat} (h : ∀ W0, Below w.heap.size w W0 → Calls Try.prog f #[.slice A rows.length c] W0 (SomeMem (mmb rows) W0)) : TwinAt2 f w rows A c := fun W0 hb => by
  refine (h W0 hb).mono ?_
  rintro e w4 ⟨v, rows2, rfl, t1, t2, t3⟩
  exact ⟨v, rows2, rfl, t1.more hb.size, t2, hb.trans (t3.mono hb.size), Nat.le_trans hb.size t3.size, fun k hk => t3.block k hk⟩
set_option maxRecDepth 100000 in
set_option maxHeartbeats 3200000 in
theorem pnew_any {w : World} {A : Option Addr} {c : Nat} {rows : List BkR} (h : MemFew w A c rows) {Ak : Option Addr} {ck : Nat} {l : List Int} (hk : KindsAt w Ak ck l) (hl : l.length ≤ 1000) (si ki de : Int) {e0 : Int} {m0 : List Bk} {p0 : Vl}
    (he : newE (mmb rows) si ki de l = e0) (hm : newM (mmb rows) si ki de l = m0) (hp : newP (mmb rows) si ki de l = p0) :
    Calls Try.prog 13 #[.slice A rows.length c, .int .i64 si, .int .i64 ki, .int .i64 de, .slice Ak l.length ck] w (NewOf m0 p0 e0 w) := by
  have hlen := h.few
  have hb0 : Below w.heap.size w (w.alloc (.cells #[.int .u8 0, .int .i64 0, .int .i64 0, .int .i64 0] 29)) := (Below.refl _ _).alloc (Nat.le_refl _) _
  have HB0 := Lib.hid hb0
  have HX := Lib.hid (h.on hb0)
  have HKI := Lib.hid (hk.on hb0)
  have HR := Lib.hid (Blk.new w 29 #[.int .u8 0, .int .i64 0, .int .i64 0, .int .i64 0])
  obtain ⟨mb, hmb⟩ : ∃ mb, mayM (mmb rows) = mb := ⟨_, rfl⟩
  have HM := Lib.hid hmb
  have HC := Lib.hid (pcheckm_is HX.out.mem (e0 := if mb then 0 else 8) (by unfold checkM; rw [hmb]))
  have hE := he
  unfold newE at he
  rw [hmb] at he
  clear h hk hb0 hmb
  cases mb with
  | false =>
    rw [if_pos rfl] at he
    subst he
    obtain ⟨h1, h2⟩ := new_not hE (by decide)
    obtain rfl := hm.symm.trans h1
    obtain rfl := hp.symm.trans h2
    clear hE hm hp h1 h2
    go_enter Try.func13, Try.ntmps13
    go_wp2_with fail
    refine HC.out.mono ?_
    rintro e w1 ⟨rfl, hb⟩
    have rb := HR.out.beneath hb
    have hz := rb.lt
    have r0 := rb.cells 0
    have r1 := rb.cells 1
    have r2 := rb.cells 2
    have r3 := rb.cells 3
    have rf := rb.free
    have HB1 := Lib.hid (HB0.out.trans (hb.mono HB0.out.size))
    have PB := Lib.hid (put4 rb (.int .u8 0) (.int .i64 0) (.int .i64 0) (.int .i64 0))
    clear hb rb
    go_wp2_with fail
    go_region
    go_wp2_with fail
    have q0 := PB.out.drew.cells 0
    have q1 := PB.out.drew.cells 1
    have q2 := PB.out.drew.cells 2
    have q3 := PB.out.drew.cells 3
    exact bodyPost_ret (v := .tuple #[.slice none 0 0, valV 0 0 0 0, .int .i64 8]) (by simp [results, Try.results13, go_sem, q0, q1, q2, q3]) rfl (NewOf.none (below4 (k := 0) HB1.out).drew)
  | true =>
    rw [if_neg (by decide)] at he
    have hbig : ¬ (4096 ≤ (mmb rows).length) := by rw [mmb_len]; omega
    rw [if_neg hbig] at he
    have hcase : l.all kindOk = false ∨ (l.all kindOk = true ∧ ((si < 0 ∨ ki < 0 ∨ de < 0) ∨ (0 ≤ si ∧ 0 ≤ ki ∧ 0 ≤ de ∧ ((l.length : Int) < 1 ∨ (¬ (l.length : Int) < 1 ∧ (32 < (l.length : Int) ∨ ¬ 32 < (l.length : Int))))))) := by
      cases l.all kindOk
      · exact .inl rfl
      · right; refine ⟨rfl, ?_⟩; omega
    obtain ⟨ok, hok⟩ : ∃ ok, l.all kindOk = ok := ⟨_, rfl⟩
    rw [hok] at hcase he
    have HCASE := Lib.hid hcase
    have HOK := Lib.hid hok
    have HE := Lib.hid he
    have HEE := Lib.hid hE
    have HMM := Lib.hid hm
    have HPP := Lib.hid hp
    clear he hE hm hp hok hcase
    go_enter Try.func13, Try.ntmps13
    go_wp2_with fail
    refine HC.out.mono ?_
    rintro e w1 ⟨rfl, hb⟩
    have HR1 := Lib.hid (HR.out.beneath hb)
    have HB1 := Lib.hid (HB0.out.trans (hb.mono HB0.out.size))
    have HX1 := Lib.hid (HX.out.on hb)
    have HK1 := Lib.hid (HKI.out.on hb)
    obtain ⟨g, hg⟩ : ∃ g, w1.heap.size = g := ⟨_, rfl⟩
    have hgl : w.heap.size < g := by have := hb.size; rw [World.size_alloc] at this; omega
    have HS : Hid (Blk (w1.alloc (.cells #[.int .i64 si, .int .i64 ki, .int .i64 de, .bool true, .slice none 0 0] 70)) g 70 #[.int .i64 si, .int .i64 ki, .int .i64 de, .bool true, .slice none 0 0]) := Lib.hid (Blk.newAt hg.symm _ _)
    have HSB : Hid (Below g w1 (w1.alloc (.cells #[.int .i64 si, .int .i64 ki, .int .i64 de, .bool true, .slice none 0 0] 70))) := Lib.hid (by rw [← hg]; exact (Below.refl _ _).alloc (Nat.le_refl _) _)
    have HG := Lib.hid hg
    clear hb
    go_wp2_with fail
    go_loopw [31] (fun i wr => ∃ (k : Nat) (v : Value), k ≤ l.length ∧ i = .int .i64 k ∧ Hid ((l.take k).all kindOk = true) ∧ Hid (Blk wr g 70 #[.int .i64 si, .int .i64 ki, .int .i64 de, .bool true, v]) ∧ Hid (OwnVals wr (g + 1) v ((l.take k).map firstV)) ∧ Hid (Below g w1 wr)) (fun i _ => l.length - (intOf i).toNat)
    case atStart => exact ⟨0, _, Nat.zero_le _, rfl, Lib.hid rfl, HS, Lib.hid (OwnVals.nil _ _), HSB⟩
    case round =>
      obtain ⟨k, v, hk, rfl, HA, HS, HO, HB⟩ := hrel
      have HBW : Hid (Below w1.heap.size w1 wr) := Lib.hid (by rw [HG.out]; exact HB.out)
      have HRW := Lib.hid (HR1.out.beneath HBW.out)
      have hgs : g ≤ wr.heap.size := by have := HB.out.size; rw [HG.out] at this; exact this
      have HBX := Lib.hid (HB1.out.trans (HBW.out.mono HB1.out.size))
      by_cases hlt : k < l.length
      · obtain ⟨b, off, x, rfl, hbk, d0, HXE⟩ := (HK1.out.on HBW.out).elem hlt
        have HC := Lib.hid (first_any x wr)
        cases hkx : kindOk x with
        | false =>
          have HBAD := Lib.hid (all_bad hlt HXE.out hkx)
          obtain rfl : ok = false := HOK.out.symm.trans HBAD.out
          obtain rfl : 2 = e0 := (if_pos (.inl rfl)).symm.trans HE.out
          obtain ⟨h1, h2⟩ := new_not HEE.out (by decide)
          obtain rfl := HMM.out.symm.trans h1
          obtain rfl := HPP.out.symm.trans h2
          rw [(kind_no hkx).1, (kind_no hkx).2] at HC
          clear hkx h1 h2
          go_wp2_with fail
          refine HC.out.mono ?_
          rintro e w2 ⟨rfl, hb⟩
          have rb := HRW.out.beneath hb
          have ra := rb.alloc (.cells #[.int .u8 0, .int .i64 0, .int .i64 0, .int .i64 0] 29)
          have hz := rb.lt
          have r0 := rb.cells 0
          have r1 := rb.cells 1
          have r2 := rb.cells 2
          have r3 := rb.cells 3
          have rf := rb.free
          have a0 := ra.cells 0
          have a1 := ra.cells 1
          have a2 := ra.cells 2
          have a3 := ra.cells 3
          have HB2 := Lib.hid (HBX.out.trans (hb.mono HBX.out.size))
          have PB := Lib.hid (put4 rb (.int .u8 0) (.int .i64 0) (.int .i64 0) (.int .i64 0))
          clear hb rb ra
          go_wp2_with fail
          go_region
          go_wp2_with fail
          have q0 := (PB.out.alloc (.cells #[.int .u8 0, .int .i64 0, .int .i64 0, .int .i64 0] 29)).drew.cells 0
          have q1 := (PB.out.alloc (.cells #[.int .u8 0, .int .i64 0, .int .i64 0, .int .i64 0] 29)).drew.cells 1
          have q2 := (PB.out.alloc (.cells #[.int .u8 0, .int .i64 0, .int .i64 0, .int .i64 0] 29)).drew.cells 2
          have q3 := (PB.out.alloc (.cells #[.int .u8 0, .int .i64 0, .int .i64 0, .int .i64 0] 29)).drew.cells 3
          have hbe := below4 (k := 0) (v0 := .int .u8 0) (v1 := .int .i64 0) (v2 := .int .i64 0) (v3 := .int .i64 0) HB2.out
          exact bodyPost_ret (v := .tuple #[.slice none 0 0, valV 0 0 0 0, .int .i64 2]) (by simp [results, Try.results13, go_sem, q0, q1, q2, q3]) rfl (NewOf.none (hbe.alloc hbe.size (.cells #[.int .u8 0, .int .i64 0, .int .i64 0, .int .i64 0] 29)).drew)
        | true =>
          rw [(kind_first hkx).1, (kind_first hkx).2] at HC
          have HLN : Hid ((l.take k).length = k) := Lib.hid (by rw [List.length_take]; omega)
          have HNX : Hid ((l.take (k + 1)) = l.take k ++ [x]) := Lib.hid (by rw [take_succ_getD (d := 0) hlt, HXE.out])
          have HKX := Lib.hid hkx
          clear hkx
          go_wp2_with fail
          refine HC.out.mono ?_
          rintro e w2 ⟨rfl, hb⟩
          have hb2 : Below w2.heap.size w2 (w2.alloc (.cells #[.int .u8 x, .int .i64 0, .int .i64 0, .int .i64 0] 29)) := (Below.refl _ _).alloc (Nat.le_refl _) _
          have HS2 := Lib.hid ((HS.out.beneath hb).beneath hb2)
          have HO2 := Lib.hid ((HO.out.keep hb).keep hb2)
          have hgs2 : g ≤ w2.heap.size := Nat.le_trans hgs hb.size
          have HB2 := Lib.hid ((HB.out.trans (hb.mono hgs)).trans (hb2.mono hgs2))
          have hO3 := HO2.out.base
          have hgw := HS2.out.lt
          have d4 := HS2.out.cells 4
          clear hb hb2
          go_wp2_with (at_builtin; refine wpList_appV1 rfl (.tmp 45) (.tmp 47) rfl (g + 1) _ ((l.take k).map firstV) rfl (firstV x) HO2.out (by rw [World.size_alloc]; rfl) (by rw [List.length_map, HLN.out]; omega) hgw ?_; intro v' w3 hown3 hg3; refine pause ?_)
          obtain ⟨A3, c3, hv3, _⟩ := hown3.form
          rw [show ((l.take k).map firstV ++ [firstV x]).length = k + 1 by rw [List.length_append, List.length_map, HLN.out]; rfl] at hv3
          subst hv3
          have hs3 := Blk.grown (HS2.out.alloc _) hg3 (fun e => by have := hO3 _ e; omega)
          have HB3 := Lib.hid (Below.grown (HB2.out.alloc (by rw [World.size_alloc]; omega) _) hg3 (by rw [World.size_alloc, World.size_alloc]; omega) (fun k hk => by have := hO3 _ hk; omega))
          have e4 := hs3.cells 4
          have f4 := hs3.free 4
          have HS3 := Lib.hid (hs3.put 4 (.slice A3 (k + 1) c3))
          have HO3 : Hid (OwnVals (w3.setCell ⟨g, 4, none⟩ (.slice A3 (k + 1) c3)) (g + 1) (.slice A3 (k + 1) c3) ((l.take (k + 1)).map firstV)) := Lib.hid (OwnVals.far (by rw [HNX.out, List.map_append]; exact hown3) (Nat.lt_succ_self g) _)
          have HA3 : Hid ((l.take (k + 1)).all kindOk = true) := Lib.hid (by rw [HNX.out, List.all_append, HA.out]; simp [HKX.out])
          clear hown3 hg3 hO3 hs3
          refine resume ?_
          go_wp2_with fail
          go_roundw
          case rel => exact ⟨k + 1, _, by omega, by go_num, HA3, HS3, HO3, Lib.hid (HB3.out.setCell (Nat.le_refl _) _)⟩
          case measure => simp [intOf]; omega
      · have HAL : Hid (l.all kindOk = true) := Lib.hid (by have := HA.out; rwa [List.take_of_length_le (by omega)] at this)
        obtain rfl : ok = true := HOK.out.symm.trans HAL.out
        have HO3 := Lib.hid (show OwnVals wr (g + 1) v (l.map firstV) by have := HO.out; rwa [List.take_of_length_le (by omega)] at this)
        have hcase := HCASE.out
        rcases hcase with h9 | ⟨_, hcase⟩
        · cases h9
        have rb := HRW.out
        have hz := rb.lt
        have r0 := rb.cells 0
        have r1 := rb.cells 1
        have r2 := rb.cells 2
        have r3 := rb.cells 3
        have rf := rb.free
        have PB := Lib.hid (put4 rb (.int .u8 0) (.int .i64 0) (.int .i64 0) (.int .i64 0))
        clear rb
        rcases hcase with hneg | ⟨hs, hq, hd, hl1 | ⟨hl1, hl2 | hl2⟩⟩
        · obtain rfl : 2 = e0 := (if_pos (by omega)).symm.trans HE.out
          obtain ⟨h1, h2⟩ := new_not HEE.out (by decide)
          obtain rfl := HMM.out.symm.trans h1
          obtain rfl := HPP.out.symm.trans h2
          clear h1 h2
          obtain ⟨M, hM, hmn⟩ : ∃ M : Int, M = (if de < (if ki < si then ki else si) then de else (if ki < si then ki else si)) ∧ M < 0 := ⟨_, rfl, min3_neg hneg⟩
          have HMN := Lib.hid hM
          clear hM hneg
          go_wp2_with ((with_reducible show wpList _ _ _ _ _ _); refine wpList_min3 rfl (.tmp 51) (.tmp 52) (.tmp 53) 3 rfl .i64 si ki de rfl rfl rfl M HMN.out ?_; refine pause ?_)
          refine resume ?_
          go_wp2_with fail
          go_region
          go_wp2_with fail
          have q0 := PB.out.drew.cells 0
          have q1 := PB.out.drew.cells 1
          have q2 := PB.out.drew.cells 2
          have q3 := PB.out.drew.cells 3
          exact bodyPost_ret (v := .tuple #[.slice none 0 0, valV 0 0 0 0, .int .i64 2]) (by simp [results, Try.results13, go_sem, q0, q1, q2, q3]) rfl (NewOf.none (below4 (k := 0) HBX.out).drew)
        · obtain rfl : 2 = e0 := (if_pos (by omega)).symm.trans HE.out
          obtain ⟨h1, h2⟩ := new_not HEE.out (by decide)
          obtain rfl := HMM.out.symm.trans h1
          obtain rfl := HPP.out.symm.trans h2
          clear h1 h2
          obtain ⟨M, hM, hmn⟩ : ∃ M : Int, M = (if de < (if ki < si then ki else si) then de else (if ki < si then ki else si)) ∧ ¬ M < 0 := ⟨_, rfl, min3_nn hs hq hd⟩
          have HMN := Lib.hid hM
          clear hM hs hq hd
          go_wp2_with ((with_reducible show wpList _ _ _ _ _ _); refine wpList_min3 rfl (.tmp 51) (.tmp 52) (.tmp 53) 3 rfl .i64 si ki de rfl rfl rfl M HMN.out ?_; refine pause ?_)
          refine resume ?_
          go_wp2_with fail
          go_region
          go_wp2_with fail
          have q0 := PB.out.drew.cells 0
          have q1 := PB.out.drew.cells 1
          have q2 := PB.out.drew.cells 2
          have q3 := PB.out.drew.cells 3
          exact bodyPost_ret (v := .tuple #[.slice none 0 0, valV 0 0 0 0, .int .i64 2]) (by simp [results, Try.results13, go_sem, q0, q1, q2, q3]) rfl (NewOf.none (below4 (k := 0) HBX.out).drew)
        · obtain rfl : 2 = e0 := (if_pos (by omega)).symm.trans HE.out
          obtain ⟨h1, h2⟩ := new_not HEE.out (by decide)
          obtain rfl := HMM.out.symm.trans h1
          obtain rfl := HPP.out.symm.trans h2
          clear h1 h2
          obtain ⟨M, hM, hmn⟩ : ∃ M : Int, M = (if de < (if ki < si then ki else si) then de else (if ki < si then ki else si)) ∧ ¬ M < 0 := ⟨_, rfl, min3_nn hs hq hd⟩
          have HMN := Lib.hid hM
          clear hM hs hq hd
          go_wp2_with ((with_reducible show wpList _ _ _ _ _ _); refine wpList_min3 rfl (.tmp 51) (.tmp 52) (.tmp 53) 3 rfl .i64 si ki de rfl rfl rfl M HMN.out ?_; refine pause ?_)
          refine resume ?_
          go_wp2_with fail
          go_region
          go_wp2_with fail
          have q0 := PB.out.drew.cells 0
          have q1 := PB.out.drew.cells 1
          have q2 := PB.out.drew.cells 2
          have q3 := PB.out.drew.cells 3
          exact bodyPost_ret (v := .tuple #[.slice none 0 0, valV 0 0 0 0, .int .i64 2]) (by simp [results, Try.results13, go_sem, q0, q1, q2, q3]) rfl (NewOf.none (below4 (k := 0) HBX.out).drew)
        · obtain rfl : 0 = e0 := (if_neg (by
            rintro (h9 | h9)
            · cases h9
            · omega)).symm.trans HE.out
          obtain ⟨h1, h2⟩ := new_yes HEE.out
          obtain rfl := HMM.out.symm.trans h1
          obtain rfl := HPP.out.symm.trans h2
          obtain ⟨A1, c1, rfl, hh, hvals, hfr⟩ := HO3.out.form
          rw [List.length_map] at hh
          obtain ⟨M, hM, hmn⟩ : ∃ M : Int, M = (if de < (if ki < si then ki else si) then de else (if ki < si then ki else si)) ∧ ¬ M < 0 := ⟨_, rfl, min3_nn hs hq hd⟩
          have HMN := Lib.hid hM
          clear hM
          have HRK : Hid (BkR.Ok wr 0 wr.heap.size ⟨si, ki, de, true, A1, c1, l.map firstV⟩) := Lib.hid ⟨by rw [List.length_map]; exact hh, hvals.more (Nat.zero_le _) (Nat.le_refl _)⟩
          have HOLD : Hid (0 < (l.map firstV).length → ∃ b o, A1 = some ⟨b, o, none⟩ ∧ g + 1 ≤ b ∧ TBlk wr b 29) := Lib.hid hfr
          rw [List.length_map] at HS
          have hgw := HS.out.lt
          have c0 := HS.out.cells 0
          have c1' := HS.out.cells 1
          have c2 := HS.out.cells 2
          have c3 := HS.out.cells 3
          have c4 := HS.out.cells 4
          have HT : Hid (TwinAt2 19 wr rows A c) := Lib.hid (TwinAt2.of fun W0 hb => ptwinm_any ((HX1.out.on HBW.out).on hb))
          have hb4 : ¬ ((4096 : Int) ≤ (rows.length : Int)) := by omega
          have hl1' : ¬ ((l.length : Int) < 1) := by omega
          have hl2' : ¬ (32 < (l.length : Int)) := by omega
          clear hl1 hl2
          clear h1 h2 hh hvals hfr hs hq hd r0 r1 r2 r3 rf
          go_wp2_with ((with_reducible show wpList _ _ _ _ _ _); refine wpList_min3 rfl (.tmp 51) (.tmp 52) (.tmp 53) 3 rfl .i64 si ki de rfl rfl rfl M HMN.out ?_; refine pause ?_)
          refine resume ?_
          go_wp2_with fail
          go_region_held3 (fun w' => w'.cell? ⟨g, 0, none⟩ = some (.int .i64 si) ∧ w'.cell? ⟨g, 1, none⟩ = some (.int .i64 ki) ∧ w'.cell? ⟨g, 2, none⟩ = some (.int .i64 de) ∧ w'.cell? ⟨g, 3, none⟩ = some (.bool true) ∧ w'.cell? ⟨g, 4, none⟩ = some (.slice A1 l.length c1)) (go_keep)
            (first
              | (go_at_call 19
                 refine (HT.out _ (by repeat (with_reducible first | exact Below.refl _ _ | refine Below.drew ?_ | refine Below.alloc ?_ (by first | omega | (simp; done) | (simp; omega)) _))).mono ?_
                 rintro e w4 ⟨v4, rows2, rfl, hown1, hmm1, hb1, hs1, hk9⟩
                 have hl2 := congrArg List.length hmm1
                 rw [mmb_len, mmb_len] at hl2
                 have hs3 := HS.out.beneath hb1
                 have k0 := hs3.cells 0
                 have k1 := hs3.cells 1
                 have k2 := hs3.cells 2
                 have k3 := hs3.cells 3
                 have k4 := hs3.cells 4
                 have HS4 := Lib.hid hs3
                 have HR4 := Lib.hid (HRW.out.beneath hb1)
                 have HO1 := Lib.hid hown1
                 have HB4 := Lib.hid hb1
                 have HM1 := Lib.hid hmm1
                 clear hown1 hb1 hmm1 hs3)
              | (refine step_appBlk rfl (.tmp 72) (.tmp 74) rfl wr _ (g + 1) wr.heap.size _ _ ⟨si, ki, de, true, A1, c1, l.map firstV⟩ (by rfl) HO1.out
                   (by first | (with_reducible exact Kept.refl _ _) | (exact (Kept.refl _ _).alloc _))
                   (by first | (with_reducible exact HB4.out) | (exact HB4.out.alloc (by first | omega | (simp; done) | (simp; omega)) _)) _ (by rfl)
                   (by rw [List.length_map]; first | (with_reducible exact Blk.newAt (by first | omega | (simp; done) | (simp; omega)) _ _) | (exact Blk.ofEq (hk9 _ (by first | omega | (simp; done) | (simp; omega))) (Blk.newAt (by first | omega | (simp; done) | (simp; omega)) _ _)))
                   HRK.out HOLD.out hgw (Nat.le_refl _) hs1 (by omega) ?_
                 intro v2 w5 hown2 hg2 hvb hst
                 obtain ⟨A5, c5, hv5, _⟩ := hown2.own
                 rw [show (rows2 ++ [(⟨si, ki, de, true, A1, c1, l.map firstV⟩ : BkR)]).length = rows.length + 1 by rw [List.length_append, hl2]; rfl] at hv5
                 subst hv5
                 (first | have h3 := Blk.grown HS4.out hg2 (fun e => by have := hvb _ e; omega) | have h3 := Blk.grown (HS4.out.alloc _) hg2 (fun e => by have := hvb _ e; omega))
                 (first | have h5 := Blk.grown HR4.out hg2 (fun e => by have := hvb _ e; omega) | have h5 := Blk.grown (HR4.out.alloc _) hg2 (fun e => by have := hvb _ e; omega))
                 have j0 := h3.cells 0
                 have j1 := h3.cells 1
                 have j2 := h3.cells 2
                 have j3 := h3.cells 3
                 have j4 := h3.cells 4
                 have i0 := h5.cells 0
                 have i1 := h5.cells 1
                 have i2 := h5.cells 2
                 have i3 := h5.cells 3
                 have f0 := h5.free 0
                 have f1 := h5.free 1
                 have f2 := h5.free 2
                 have f3 := h5.free 3
                 have PB5 := Lib.hid (put4 h5 (.int .u8 2) (.int .i64 0) (.int .i64 (rows.length + 1)) (.int .i64 0))
                 have HB5 := Lib.hid (Below.grown (B := wr.heap.size) (a := wr) (by first | (with_reducible exact HB4.out) | (exact HB4.out.alloc (by first | omega | (simp; done) | (simp; omega)) _)) hg2 (by first | omega | (simp; done) | (simp; omega)) (fun k hk => by have := hvb _ hk; omega))
                 have HO5 := Lib.hid hown2
                 clear hown2 hg2 h3 h5 hst))
          all_goals
            go_wp2_with fail
            have q0 := PB5.out.cells 0
            have q1 := PB5.out.cells 1
            have q2 := PB5.out.cells 2
            have q3 := PB5.out.cells 3
            refine bodyPost_ret (v := .tuple #[.slice A5 (rows.length + 1) c5, valV 2 0 (rows.length + 1) 0, .int .i64 0]) (by simp [results, Try.results13, go_sem, q0, q1, q2, q3]) rfl ⟨_, rows2 ++ [⟨si, ki, de, true, A1, c1, l.map firstV⟩], by rw [mmb_len], ?_, ?_, ?_⟩
            · exact (HO5.out.kept (Kept.put4 (Kept.refl (g + 1) w5) (Nat.lt_succ_of_lt hgl) (.int .u8 2) (.int .i64 0) (.int .i64 ((rows.length : Int) + 1)) (.int .i64 0))).more (by omega)
            · unfold mmb; rw [List.map_append, ← mmb, ← mmb, HM1.out]; rfl
            · exact below4 (k := 0) (HBX.out.trans (HB5.out.mono HBX.out.size))
end Go.Proofs.Ythddacnnhmcoaaa
