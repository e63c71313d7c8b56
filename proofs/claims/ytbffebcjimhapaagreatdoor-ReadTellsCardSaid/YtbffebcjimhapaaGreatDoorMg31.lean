/-
  The program's small words for shapes; slices.IndexFunc, slices.ContainsFunc at instructions, blocks and functions. And what stands on it: ShProg2, ShProg3.
-/
import Derived.Test.YtbffebcjimhapaaGreatDoorMg30
import Derived.Laws.StructEq
import Derived.Deep.DeepCutAuto
namespace Go.Proofs.YtbffebcjimhapaaGreatDoor
set_option linter.unusedVariables false
set_option linter.unusedSimpArgs false
open Go.ChangeShapes Go.WideShapes Go.ChangeAt Go.RowKit
section
variable {α : Type} {P : α → Bool} {xs : List α} {k : Nat}
theorem anyR_none (h : AllTo (fun x => !P x) xs k) (hk : xs.length ≤ k) : xs.any P = false := by
 have := h.done hk
 rw [List.any_eq_not_all_not, this]; rfl
theorem anyR_some [Inhabited α] (hk : k < xs.length) (hp : P (xs.getD k default) = true) : xs.any P = true := by
 rw [List.any_eq_true]
 exact ⟨_, mem_getD (d := default) hk, hp⟩
end
structure AnswersI (w : World) (F : FuncId) (cap : Array Value) (xs : List InR) (P : InR → Bool) : Prop where
 enters : Enters F
 calls : ∀ (W : World) (v : InR), Below w.heap.size w W → v ∈ xs → Calls Tryz.prog F (#[v.val] ++ cap) W fun e w' => e = .returned (.bool (P v)) ∧ Below W.heap.size W w'
theorem indexI_any {w : World} {A : Option Addr} {c : Nat} {xs : List InR} (hx : InsAt w A c xs) (F : FuncId) (cap : Array Value) (P : InR → Bool) (hf : AnswersI w F cap xs P) :
    Calls Tryz.prog 134 #[.slice A xs.length c, .func (.func F) #[] cap] w (SomeIndex (xs.any P) w) := by
 have hl := hx.hdr.cle
 have HX := Lib.hid hx
 have HF := Lib.hid hf
 have eg := hf.enters
 unfold Enters at eg
 clear hx hf
 go_enter Tryz.func134, Tryz.ntmps134
 go_wp2_with fail
 go_loopw [8] (fun i wr => ∃ k : Nat, k ≤ xs.length ∧ i = .int .i64 k ∧ AllTo (fun x => !P x) xs k ∧ Below w.heap.size w wr) (fun i _ => xs.length - (intOf i).toNat)
 case atStart => exact ⟨0, Nat.zero_le _, rfl, AllTo.zero _ _, Below.refl _ _⟩
 case round =>
  obtain ⟨k, hk, rfl, hall, hbel⟩ := hrel
  have HA := Lib.hid hall
  have HB := Lib.hid hbel
  clear hall hbel
  by_cases hlt : k < xs.length
  · obtain ⟨b, off, x, rfl, hbk, ⟨d0, d1, d2, d3, d4, d5, d6⟩, _, HE⟩ := (HX.out.on HB.out).elem hlt
    have hxm : x ∈ xs := by have := mem_getD (d := (default : InR)) hlt; rwa [HE.out] at this
    have HC := Lib.hid (HF.out.calls wr x HB.out hxm)
    clear hxm
    cases hp : P x with
    | true =>
      rw [hp] at HC
      have HP := Lib.hid hp
      clear hp
      go_wp2_with fail
      refine HC.out.mono ?_
      rintro e w1 ⟨rfl, hb1⟩
      have HB1 := Lib.hid (HB.out.trans (hb1.mono HB.out.size))
      clear hb1
      go_wp2_with fail
      go_ret
      exact ⟨_, rfl, by rw [anyR_some hlt (by rw [HE.out]; exact HP.out)]; simp, HB1.out⟩
    | false =>
      rw [hp] at HC
      have HP := Lib.hid hp
      clear hp
      go_wp2_with fail
      refine HC.out.mono ?_
      rintro e w1 ⟨rfl, hb1⟩
      have HB1 := Lib.hid (HB.out.trans (hb1.mono HB.out.size))
      clear hb1
      go_wp2_with fail
      go_roundw
      case rel => exact ⟨k + 1, by omega, by go_num, HA.out.step (d := default) hlt (by rw [HE.out, HP.out]; rfl), HB1.out⟩
      case measure => simp [intOf]; omega
  · go_wp2_with fail
    go_ret
    exact ⟨_, rfl, by rw [anyR_none HA.out (by omega)]; rfl, HB.out⟩
theorem containsI_any {w : World} {A : Option Addr} {c : Nat} {xs : List InR} (hx : InsAt w A c xs) (F : FuncId) (cap : Array Value) (P : InR → Bool) (hf : AnswersI w F cap xs P) {b : Bool} (hb : xs.any P = b) :
    Calls Tryz.prog 94 #[.slice A xs.length c, .func (.func F) #[] cap] w fun e w' => e = .returned (.bool b) ∧ Below w.heap.size w w' := by
 have HI := Lib.hid (indexI_any hx F cap P hf)
 rw [hb] at HI
 clear hx hf hb
 go_enter Tryz.func94, Tryz.ntmps94
 go_wp2_with fail
 refine HI.out.mono ?_
 rintro e w1 ⟨r, rfl, hr, hb1⟩
 have HR := Lib.hid hr
 have HB := Lib.hid hb1
 clear hr hb1
 go_wp2_with fail
 go_ret
 exact ⟨ret_bool HR.out, HB.out⟩
structure AnswersB (w : World) (F : FuncId) (cap : Array Value) (xs : List BlR) (P : BlR → Bool) : Prop where
 enters : Enters F
 calls : ∀ (W : World) (v : BlR), Below w.heap.size w W → v ∈ xs → Calls Tryz.prog F (#[v.val] ++ cap) W fun e w' => e = .returned (.bool (P v)) ∧ Below W.heap.size W w'
theorem indexB_any {w : World} {A : Option Addr} {c : Nat} {xs : List BlR} (hx : BlksAt w A c xs) (F : FuncId) (cap : Array Value) (P : BlR → Bool) (hf : AnswersB w F cap xs P) :
    Calls Tryz.prog 133 #[.slice A xs.length c, .func (.func F) #[] cap] w (SomeIndex (xs.any P) w) := by
 have hl := hx.hdr.cle
 have HX := Lib.hid hx
 have HF := Lib.hid hf
 have eg := hf.enters
 unfold Enters at eg
 clear hx hf
 go_enter Tryz.func133, Tryz.ntmps133
 go_wp2_with fail
 go_loopw [8] (fun i wr => ∃ k : Nat, k ≤ xs.length ∧ i = .int .i64 k ∧ AllTo (fun x => !P x) xs k ∧ Below w.heap.size w wr) (fun i _ => xs.length - (intOf i).toNat)
 case atStart => exact ⟨0, Nat.zero_le _, rfl, AllTo.zero _ _, Below.refl _ _⟩
 case round =>
  obtain ⟨k, hk, rfl, hall, hbel⟩ := hrel
  have HA := Lib.hid hall
  have HB := Lib.hid hbel
  clear hall hbel
  by_cases hlt : k < xs.length
  · obtain ⟨b, off, x, rfl, hbk, ⟨d0, d1, d2, d3, d4⟩, _, HE⟩ := (HX.out.on HB.out).elem hlt
    have hxm : x ∈ xs := by have := mem_getD (d := (default : BlR)) hlt; rwa [HE.out] at this
    have HC := Lib.hid (HF.out.calls wr x HB.out hxm)
    clear hxm
    cases hp : P x with
    | true =>
      rw [hp] at HC
      have HP := Lib.hid hp
      clear hp
      go_wp2_with fail
      refine HC.out.mono ?_
      rintro e w1 ⟨rfl, hb1⟩
      have HB1 := Lib.hid (HB.out.trans (hb1.mono HB.out.size))
      clear hb1
      go_wp2_with fail
      go_ret
      exact ⟨_, rfl, by rw [anyR_some hlt (by rw [HE.out]; exact HP.out)]; simp, HB1.out⟩
    | false =>
      rw [hp] at HC
      have HP := Lib.hid hp
      clear hp
      go_wp2_with fail
      refine HC.out.mono ?_
      rintro e w1 ⟨rfl, hb1⟩
      have HB1 := Lib.hid (HB.out.trans (hb1.mono HB.out.size))
      clear hb1
      go_wp2_with fail
      go_roundw
      case rel => exact ⟨k + 1, by omega, by go_num, HA.out.step (d := default) hlt (by rw [HE.out, HP.out]; rfl), HB1.out⟩
      case measure => simp [intOf]; omega
  · go_wp2_with fail
    go_ret
    exact ⟨_, rfl, by rw [anyR_none HA.out (by omega)]; rfl, HB.out⟩
theorem containsB_any {w : World} {A : Option Addr} {c : Nat} {xs : List BlR} (hx : BlksAt w A c xs) (F : FuncId) (cap : Array Value) (P : BlR → Bool) (hf : AnswersB w F cap xs P) {b : Bool} (hb : xs.any P = b) :
    Calls Tryz.prog 92 #[.slice A xs.length c, .func (.func F) #[] cap] w fun e w' => e = .returned (.bool b) ∧ Below w.heap.size w w' := by
 have HI := Lib.hid (indexB_any hx F cap P hf)
 rw [hb] at HI
 clear hx hf hb
 go_enter Tryz.func92, Tryz.ntmps92
 go_wp2_with fail
 refine HI.out.mono ?_
 rintro e w1 ⟨r, rfl, hr, hb1⟩
 have HR := Lib.hid hr
 have HB := Lib.hid hb1
 clear hr hb1
 go_wp2_with fail
 go_ret
 exact ⟨ret_bool HR.out, HB.out⟩
structure AnswersF (w : World) (F : FuncId) (cap : Array Value) (xs : List FuR) (P : FuR → Bool) : Prop where
 enters : Enters F
 calls : ∀ (W : World) (v : FuR), Below w.heap.size w W → v ∈ xs → Calls Tryz.prog F (#[v.val] ++ cap) W fun e w' => e = .returned (.bool (P v)) ∧ Below W.heap.size W w'
theorem indexF_any {w : World} {A : Option Addr} {c : Nat} {xs : List FuR} (hx : FusAt w A c xs) (F : FuncId) (cap : Array Value) (P : FuR → Bool) (hf : AnswersF w F cap xs P) :
    Calls Tryz.prog 88 #[.slice A xs.length c, .func (.func F) #[] cap] w (SomeIndex (xs.any P) w) := by
 have hl := hx.hdr.cle
 have HX := Lib.hid hx
 have HF := Lib.hid hf
 have eg := hf.enters
 unfold Enters at eg
 clear hx hf
 go_enter Tryz.func88, Tryz.ntmps88
 go_wp2_with fail
 go_loopw [8] (fun i wr => ∃ k : Nat, k ≤ xs.length ∧ i = .int .i64 k ∧ AllTo (fun x => !P x) xs k ∧ Below w.heap.size w wr) (fun i _ => xs.length - (intOf i).toNat)
 case atStart => exact ⟨0, Nat.zero_le _, rfl, AllTo.zero _ _, Below.refl _ _⟩
 case round =>
  obtain ⟨k, hk, rfl, hall, hbel⟩ := hrel
  have HA := Lib.hid hall
  have HB := Lib.hid hbel
  clear hall hbel
  by_cases hlt : k < xs.length
  · obtain ⟨b, off, x, rfl, hbk, ⟨d0, d1⟩, _, HE⟩ := (HX.out.on HB.out).elem hlt
    have hxm : x ∈ xs := by have := mem_getD (d := (default : FuR)) hlt; rwa [HE.out] at this
    have HC := Lib.hid (HF.out.calls wr x HB.out hxm)
    clear hxm
    cases hp : P x with
    | true =>
      rw [hp] at HC
      have HP := Lib.hid hp
      clear hp
      go_wp2_with fail
      refine HC.out.mono ?_
      rintro e w1 ⟨rfl, hb1⟩
      have HB1 := Lib.hid (HB.out.trans (hb1.mono HB.out.size))
      clear hb1
      go_wp2_with fail
      go_ret
      exact ⟨_, rfl, by rw [anyR_some hlt (by rw [HE.out]; exact HP.out)]; simp, HB1.out⟩
    | false =>
      rw [hp] at HC
      have HP := Lib.hid hp
      clear hp
      go_wp2_with fail
      refine HC.out.mono ?_
      rintro e w1 ⟨rfl, hb1⟩
      have HB1 := Lib.hid (HB.out.trans (hb1.mono HB.out.size))
      clear hb1
      go_wp2_with fail
      go_roundw
      case rel => exact ⟨k + 1, by omega, by go_num, HA.out.step (d := default) hlt (by rw [HE.out, HP.out]; rfl), HB1.out⟩
      case measure => simp [intOf]; omega
  · go_wp2_with fail
    go_ret
    exact ⟨_, rfl, by rw [anyR_none HA.out (by omega)]; rfl, HB.out⟩
theorem containsF_any {w : World} {A : Option Addr} {c : Nat} {xs : List FuR} (hx : FusAt w A c xs) (F : FuncId) (cap : Array Value) (P : FuR → Bool) (hf : AnswersF w F cap xs P) {b : Bool} (hb : xs.any P = b) :
    Calls Tryz.prog 43 #[.slice A xs.length c, .func (.func F) #[] cap] w fun e w' => e = .returned (.bool b) ∧ Below w.heap.size w w' := by
 have HI := Lib.hid (indexF_any hx F cap P hf)
 rw [hb] at HI
 clear hx hf hb
 go_enter Tryz.func43, Tryz.ntmps43
 go_wp2_with fail
 refine HI.out.mono ?_
 rintro e w1 ⟨r, rfl, hr, hb1⟩
 have HR := Lib.hid hr
 have HB := Lib.hid hb1
 clear hr hb1
 go_wp2_with fail
 go_ret
 exact ⟨ret_bool HR.out, HB.out⟩
theorem pbelow_any (n m : Int) (w : World) : Calls Tryz.prog 42 #[.int .i64 n, .int .i64 m] w fun e w' => e = .returned (.bool (inB n m)) ∧ w = w' := by
 by_cases h0 : 0 ≤ n
 · by_cases h1 : n < m
   · have HZ : Hid (inB n m = true) := Lib.hid (inB_iff.2 ⟨h0, h1⟩)
     go_enter Tryz.func42, Tryz.ntmps42
     go_wp2_with fail
     go_ret
     exact ⟨ret_bool (by rw [HZ.out] <;> first | rfl | exact decide_eq_true h1), rfl⟩
   · have HZ : Hid (inB n m = false) := Lib.hid (inB_not.2 (by omega))
     go_enter Tryz.func42, Tryz.ntmps42
     go_wp2_with fail
     go_ret
     exact ⟨ret_bool (by rw [HZ.out] <;> first | rfl | exact decide_eq_false h1), rfl⟩
 · have HZ : Hid (inB n m = false) := Lib.hid (inB_not.2 (by omega))
   go_enter Tryz.func42, Tryz.ntmps42
   go_wp2_with fail
   go_ret
   exact ⟨ret_bool (by rw [HZ.out]), rfl⟩
theorem pbelow_is {n m : Int} {b : Bool} (h : inB n m = b) (w : World) : Calls Tryz.prog 42 #[.int .i64 n, .int .i64 m] w fun e w' => e = .returned (.bool b) ∧ w = w' := h ▸ pbelow_any n m w
theorem enters_all1 : Enters 158 := fun _ _ => by kernel_rfl
theorem all1_any {w : World} {g : Nat} (x m : Int) (hc : w.cell? ⟨g, 0, none⟩ = some (.int .i64 m)) :
    Calls Tryz.prog 158 #[.int .i64 x, .pointer (some ⟨g, 0, none⟩)] w fun e w' => e = .returned (.bool (!inB x m)) ∧ Below w.heap.size w w' := by
 go_enter Tryz.func158, Tryz.ntmps158
 go_wp2_with fail
 refine (pbelow_any x m _).mono ?_
 rintro e w1 ⟨rfl, rfl⟩
 go_wp2_with fail
 go_ret
 exact ⟨rfl, Below.refl _ _⟩
theorem pall_any {w : World} {A : Option Addr} {c : Nat} {xs : List Int} (hh : Hdr A xs.length c) (hx : IntsAt w 0 w.heap.size A xs) (m : Int) {b : Bool} (hb : allB xs m = b) :
    Calls Tryz.prog 131 #[.slice A xs.length c, .int .i64 m] w fun e w' => e = .returned (.bool b) ∧ Below w.heap.size w w' := by
 have hany : xs.any (fun n => !inB n m) = !b := by
  rw [← hb]
  unfold allB
  rw [List.all_eq_not_any_not, Bool.not_not]
 have HB1 := Lib.hid ((Below.refl w.heap.size w).alloc (Nat.le_refl _) (.cells #[.int .i64 m] 3))
 have hcell : ∀ W, Below (w.alloc (.cells #[.int .i64 m] 3)).heap.size (w.alloc (.cells #[.int .i64 m] 3)) W → W.cell? ⟨w.heap.size, 0, none⟩ = some (.int .i64 m) := fun W hW =>
  ((Blk.new w 3 #[.int .i64 m]).beneath hW).cells 0
 have hA : AnswersBy (w.alloc (.cells #[.int .i64 m] 3)) 158 #[.pointer (some ⟨w.heap.size, 0, none⟩)] xs (fun n => !inB n m) :=
  ⟨enters_all1, fun W v hW _ => all1_any v m (hcell W hW)⟩
 have HC := Lib.hid (containsFunc_any hh (hx.up HB1.out) _ _ _ hA)
 rw [hany] at HC
 clear hany hA hcell hx hh hb
 go_enter Tryz.func131, Tryz.ntmps131
 go_wp2_with fail
 refine HC.out.mono ?_
 rintro e w1 ⟨rfl, hb1⟩
 have HB2 := Lib.hid (HB1.out.trans (hb1.mono HB1.out.size))
 clear hb1
 go_wp2_with fail
 go_ret
 exact ⟨rfl, HB2.out⟩
set_option maxRecDepth 100000 in
theorem pmany_any {w : World} (f : FuR) (h : BlksAt w f.ba f.bc f.blocks) (hf : f.blocks.length ≤ 20000) (hi : ∀ r ∈ f.blocks, r.ins.length ≤ 1000000) :
    Calls Tryz.prog 89 #[f.val] w fun e w' => e = .returned (.int .i64 (manyB (f.blocks.map BlR.data) : Nat)) ∧ Below w.heap.size w w' := by
 unfold FuR.val
 obtain ⟨sig, A, c, rows⟩ := f
 dsimp only at *
 have HX := Lib.hid h
 have hl : (rows.length : Int) ≤ 20000 := by omega
 have HF := Lib.hid hf
 have HI := Lib.hid hi
 clear h hf hi
 have HB1 := Lib.hid ((Below.refl w.heap.size w).alloc (Nat.le_refl _) (.cells #[.int .i64 sig, .slice A rows.length c] 64))
 go_enter Tryz.func89, Tryz.ntmps89
 go_wp2_with fail
 go_loopw [2, 8] (fun v i wr => ∃ k n : Nat, k ≤ rows.length ∧ i = .int .i64 k ∧ v = .int .i64 n ∧ n ≤ 1000000 * k ∧ Hid (n = manyB ((rows.map BlR.data).take k)) ∧ Hid (Below w.heap.size w wr)) (fun _ i _ => rows.length - (intOf i).toNat)
 case atStart => exact ⟨0, 0, Nat.zero_le _, rfl, rfl, Nat.zero_le _, Lib.hid rfl, HB1⟩
 case round =>
  clear HB1
  obtain ⟨k, n, hk, rfl, rfl, hn, HN, HB⟩ := hrel
  have hnz : (n : Int) ≤ 20000000000 := by omega
  by_cases hlt : k < rows.length
  · have hkz : (k : Int) < rows.length := by omega
    obtain ⟨b, off, r, rfl, hb, ⟨d0, d1, d2, d3, d4⟩, hr, HE⟩ := (HX.out.on HB.out).elem hlt
    have hrl : r.ins.length ≤ 1000000 := by
     have := HI.out _ (mem_getD (d := default) hlt)
     rwa [HE.out] at this
    have hrz : (r.ins.length : Int) ≤ 1000000 := by omega
    have HM : Hid (manyB ((rows.map BlR.data).take (k + 1)) = manyB ((rows.map BlR.data).take k) + r.ins.length) := Lib.hid (by
     rw [many_take (by rw [List.length_map]; exact hlt), map_getD BlR.data rows hlt, HE.out]
     show _ + (r.ins.map InR.data).length = _
     rw [List.length_map])
    have HLT := Lib.hid hlt
    have HRL := Lib.hid hrl
    have HNN := Lib.hid hn
    have HB2 := Lib.hid (fun o => HB.out.alloc HB.out.size o)
    clear hr hlt hrl hn
    go_wp2_with fail
    go_roundw
    case rel => exact ⟨k + 1, n + r.ins.length, by have := HLT.out; omega, by go_num, by go_num, by have := HRL.out; have := HNN.out; omega, Lib.hid (by rw [HM.out, HN.out]), Lib.hid (HB2.out _)⟩
    case measure => simp [intOf]; have := HLT.out; omega
  · obtain rfl : k = rows.length := by omega
    go_wp2_with fail
    go_ret
    exact ⟨ret_num (by rw [HN.out, List.take_of_length_le (by rw [List.length_map]; exact Nat.le_refl _)]), HB.out⟩
theorem eqEnd4 (k n b t k' n' b' t' : Int) (w : World) : (Op.equalIn 10000 69 (.agg #[.int .u8 k, .int .i64 n, .int .i64 b, .int .i64 t]) (.agg #[.int .u8 k', .int .i64 n', .int .i64 b', .int .i64 t'])).run Tryz.prog w = .ok (k == k' && (n == n' && (b == b' && t == t'))) w := by
 have u0 := Tryz.underlying5
 have u2 := Tryz.underlying3
 have hS : Tryz.prog.underlying 69 = some (.struct (Tryz.prog.fieldsOf 69)) := by kernel_rfl
 rw [show (10000 : Nat) = 9999 + 1 from rfl, run_equalIn_agg w 9999 69 _ _ hS (by kernel_rfl)]
 simp only [Program.fieldsOf, Tryz.underlying69]
 go_simp
 by_cases h1 : k = k' <;> by_cases h2 : n = n' <;> by_cases h3 : b = b' <;> by_cases h4 : t = t' <;> simp [h1, h2, h3, h4]
theorem eqEndT {k n b t k' n' b' t' : Int} {z : Bool} (h : (k == k' && (n == n' && (b == b' && t == t'))) = z) (w : World) : (Op.equalIn 10000 69 (.agg #[.int .u8 k, .int .i64 n, .int .i64 b, .int .i64 t]) (.agg #[.int .u8 k', .int .i64 n', .int .i64 b', .int .i64 t'])).run Tryz.prog w = .ok z w := h ▸ eqEnd4 k n b t k' n' b' t' w
def szV (t f r b : Int) : Value := .agg #[.int .i64 t, .int .i64 f, .int .i64 r, .int .i64 b]
theorem below2 (w : World) (o o2 : Obj) : Below w.heap.size w ((w.alloc o).alloc o2) := ((Below.refl _ _).alloc (Nat.le_refl _) _).alloc (by rw [World.size_alloc]; omega) _
set_option maxRecDepth 100000 in
set_option maxHeartbeats 1600000 in
theorem pend_any (x : PEnd) (t f r b : Int) (w : World) {z : Bool} (hz : endB x r b = z) :
    Calls Tryz.prog 95 #[endVal x, szV t f r b] w fun e w' => e = .returned (.bool z) ∧ Below w.heap.size w w' := by
 unfold endVal szV
 obtain ⟨kind, a, tgt, els⟩ := x
 unfold endB at hz
 dsimp only at *
 have HB := Lib.hid (below2 w)
 by_cases k1 : kind = 1
 · have e1 : ((kind : Int) == 1) = true := op_is k1
   rw [if_pos k1] at hz
   by_cases q0 : a = 0 ∧ els = 0
   · rw [decide_eq_true q0, Bool.true_and] at hz
     obtain ⟨rfl, rfl⟩ := q0
     have HQ := fun w => eqEndT (k := kind) (n := 0) (b := tgt) (t := 0) (k' := kind) (n' := 0) (b' := tgt) (t' := 0) (z := true) (by simp) w
     have HH := Lib.hid hz
     clear k1 hz
     go_enter Tryz.func95, Tryz.ntmps95
     go_wp2_with fail
     refine (pbelow_is HH.out _).mono ?_
     rintro e w1 ⟨rfl, rfl⟩
     go_wp2_with fail
     go_ret
     exact ⟨rfl, HB.out _ _⟩
   · rw [decide_eq_false q0, Bool.false_and] at hz
     have HQ := fun w => eqEndT (k := kind) (n := a) (b := tgt) (t := els) (k' := kind) (n' := 0) (b' := tgt) (t' := 0) (z := false) (by
      rw [← Bool.not_eq_true]; simp only [Bool.and_eq_true, beq_iff_eq]; rintro ⟨_, h1, _, h2⟩; exact q0 ⟨h1, h2⟩) w
     have HH := Lib.hid hz
     clear k1 hz q0
     go_enter Tryz.func95, Tryz.ntmps95
     go_wp2_with fail
     go_ret
     exact ⟨ret_bool HH.out, HB.out _ _⟩
 rw [if_neg k1] at hz
 have e1 : ((kind : Int) == 1) = false := op_no k1
 clear k1
 by_cases k2 : kind = 2
 · have e2 : ((kind : Int) == 2) = true := op_is k2
   rw [if_pos k2] at hz
   obtain ⟨c1, h1⟩ : ∃ c, inB a r = c := ⟨_, rfl⟩
   obtain ⟨c2, h2⟩ : ∃ c, inB tgt b = c := ⟨_, rfl⟩
   obtain ⟨c3, h3⟩ : ∃ c, inB els b = c := ⟨_, rfl⟩
   rw [h1, h2, h3] at hz
   have H1 := Lib.hid h1
   have H2 := Lib.hid h2
   have H3 := Lib.hid h3
   have HH := Lib.hid hz
   clear h1 h2 h3 hz k2
   cases c1 with
   | false =>
     go_enter Tryz.func95, Tryz.ntmps95
     go_wp2_with fail
     refine (pbelow_is H1.out _).mono ?_
     rintro e w1 ⟨rfl, rfl⟩
     go_wp2_with fail
     go_ret
     exact ⟨ret_bool HH.out, HB.out _ _⟩
   | true =>
     cases c2 with
     | false =>
       go_enter Tryz.func95, Tryz.ntmps95
       go_wp2_with fail
       refine (pbelow_is H1.out _).mono ?_
       rintro e w1 ⟨rfl, rfl⟩
       go_wp2_with fail
       refine (pbelow_is H2.out _).mono ?_
       rintro e w1 ⟨rfl, rfl⟩
       go_wp2_with fail
       go_ret
       exact ⟨ret_bool HH.out, HB.out _ _⟩
     | true =>
       go_enter Tryz.func95, Tryz.ntmps95
       go_wp2_with fail
       refine (pbelow_is H1.out _).mono ?_
       rintro e w1 ⟨rfl, rfl⟩
       go_wp2_with fail
       refine (pbelow_is H2.out _).mono ?_
       rintro e w1 ⟨rfl, rfl⟩
       go_wp2_with fail
       refine (pbelow_is H3.out _).mono ?_
       rintro e w1 ⟨rfl, rfl⟩
       go_wp2_with fail
       go_ret
       exact ⟨ret_bool HH.out, HB.out _ _⟩
 rw [if_neg k2] at hz
 have e2 : ((kind : Int) == 2) = false := op_no k2
 clear k2
 by_cases k3 : kind = 3
 · have e3 : ((kind : Int) == 3) = true := op_is k3
   rw [if_pos k3] at hz
   by_cases q0 : tgt = 0 ∧ els = 0
   · rw [decide_eq_true q0, Bool.true_and] at hz
     obtain ⟨rfl, rfl⟩ := q0
     have HQ := fun w => eqEndT (k := kind) (n := a) (b := 0) (t := 0) (k' := kind) (n' := a) (b' := 0) (t' := 0) (z := true) (by simp) w
     have HH := Lib.hid hz
     clear k3 hz
     go_enter Tryz.func95, Tryz.ntmps95
     go_wp2_with fail
     refine (pbelow_is HH.out _).mono ?_
     rintro e w1 ⟨rfl, rfl⟩
     go_wp2_with fail
     go_ret
     exact ⟨rfl, HB.out _ _⟩
   · rw [decide_eq_false q0, Bool.false_and] at hz
     have HQ := fun w => eqEndT (k := kind) (n := a) (b := tgt) (t := els) (k' := kind) (n' := a) (b' := 0) (t' := 0) (z := false) (by
      rw [← Bool.not_eq_true]; simp only [Bool.and_eq_true, beq_iff_eq]; rintro ⟨_, _, h1, h2⟩; exact q0 ⟨h1, h2⟩) w
     have HH := Lib.hid hz
     clear k3 hz q0
     go_enter Tryz.func95, Tryz.ntmps95
     go_wp2_with fail
     go_ret
     exact ⟨ret_bool HH.out, HB.out _ _⟩
 · rw [if_neg k3] at hz
   have e3 : ((kind : Int) == 3) = false := op_no k3
   have HH := Lib.hid hz
   clear k3 hz
   go_enter Tryz.func95, Tryz.ntmps95
   go_wp2_with fail
   go_ret
   exact ⟨ret_bool HH.out, HB.out _ _⟩
set_option maxRecDepth 100000 in
set_option maxHeartbeats 1600000 in
theorem pnumber_any (x : InR) (t f r b : Int) (w : World) {z : Bool} (hz : numB x.data f = z) :
    Calls Tryz.prog 132 #[x.val, szV t f r b] w fun e w' => e = .returned (.bool z) ∧ Below w.heap.size w w' := by
 unfold InR.val szV
 unfold numB at hz
 obtain ⟨op, ty, a, bb, n, aa, ac, args, xa, xc, from_⟩ := x
 unfold InR.data at hz
 dsimp only at *
 have HB := Lib.hid (below2 w)
 by_cases h3 : op = 3 ∨ op = 18
 · rw [if_pos h3] at hz
   have e3 : ((op : Int) == 3) = true ∨ ((op : Int) == 3) = false ∧ ((op : Int) == 18) = true := by
    rcases h3 with h | h
    · exact .inl (op_is h)
    · exact .inr ⟨op_no (m := 3) (by omega), op_is h⟩
   clear h3
   by_cases n0 : 0 ≤ n
   · by_cases n1 : n < f
     · have HQ : Hid (z = true) := Lib.hid (by rw [← hz, inB_iff]; exact ⟨n0, n1⟩)
       rcases e3 with e3 | ⟨e3, e4⟩
       all_goals
        go_enter Tryz.func132, Tryz.ntmps132
        go_wp2_with fail
        go_ret
        exact ⟨ret_bool (by rw [HQ.out] <;> first | rfl | exact decide_eq_true n1), HB.out _ _⟩
     · have HQ : Hid (z = false) := Lib.hid (by rw [← hz, inB_not]; omega)
       rcases e3 with e3 | ⟨e3, e4⟩
       all_goals
        go_enter Tryz.func132, Tryz.ntmps132
        go_wp2_with fail
        go_ret
        exact ⟨ret_bool (by rw [HQ.out] <;> first | rfl | exact decide_eq_false n1), HB.out _ _⟩
   · have HQ : Hid (z = false) := Lib.hid (by rw [← hz, inB_not]; omega)
     rcases e3 with e3 | ⟨e3, e4⟩
     all_goals
      go_enter Tryz.func132, Tryz.ntmps132
      go_wp2_with fail
      go_ret
      exact ⟨ret_bool HQ.out.symm, HB.out _ _⟩
 rw [if_neg h3] at hz
 have e3 : ((op : Int) == 3) = false := op_no (m := 3) (by omega)
 have e18 : ((op : Int) == 18) = false := op_no (m := 18) (by omega)
 clear h3
 by_cases h14 : op = 14
 · have e14 : ((op : Int) == 14) = true := op_is h14
   rw [if_pos h14] at hz
   clear h14
   by_cases n0 : 0 ≤ n
   · by_cases n1 : n < 8
     · have HQ : Hid (z = true) := Lib.hid (by rw [← hz, inB_iff]; exact ⟨n0, n1⟩)
       go_enter Tryz.func132, Tryz.ntmps132
       go_wp2_with fail
       go_ret
       exact ⟨ret_bool (by rw [HQ.out] <;> first | rfl | exact decide_eq_true n1), HB.out _ _⟩
     · have HQ : Hid (z = false) := Lib.hid (by rw [← hz, inB_not]; omega)
       go_enter Tryz.func132, Tryz.ntmps132
       go_wp2_with fail
       go_ret
       exact ⟨ret_bool (by rw [HQ.out] <;> first | rfl | exact decide_eq_false n1), HB.out _ _⟩
   · have HQ : Hid (z = false) := Lib.hid (by rw [← hz, inB_not]; omega)
     go_enter Tryz.func132, Tryz.ntmps132
     go_wp2_with fail
     go_ret
     exact ⟨ret_bool HQ.out.symm, HB.out _ _⟩
 · have e14 : ((op : Int) == 14) = false := op_no h14
   rw [if_neg h14] at hz
   have HQ := Lib.hid hz
   clear h14 hz
   go_enter Tryz.func132, Tryz.ntmps132
   go_wp2_with fail
   go_ret
   exact ⟨ret_bool HQ.out, HB.out _ _⟩
structure Box3 (w0 w : World) (g1 g2 g3 : Nat) (x s h : Array Value) : Prop where
 x : Blk w g1 74 x
 s : Blk w g2 148 s
 h : Blk w g3 173 h
 below : Below w0.heap.size w0 w
theorem Box3.on {w0 w w' : World} {g1 g2 g3 : Nat} {x s h : Array Value} (H : Box3 w0 w g1 g2 g3 x s h) (hb : Below w.heap.size w w') : Box3 w0 w' g1 g2 g3 x s h := ⟨H.x.beneath hb, H.s.beneath hb, H.h.beneath hb, H.below.trans (hb.mono H.below.size)⟩
theorem eqHas (b0 b1 b2 b3 b4 b5 : Bool) (w : World) : (Op.equalIn 10000 173 (.agg #[.bool b0, .bool b1, .bool b2, .bool b3, .bool b4, .bool b5]) (.agg #[.bool false, .bool false, .bool false, .bool false, .bool false, .bool false])).run Tryz.prog w = .ok (!(b0 || (b1 || (b2 || (b3 || (b4 || b5)))))) w := by
 have u4 := Tryz.underlying4
 have hS : Tryz.prog.underlying 173 = some (.struct (Tryz.prog.fieldsOf 173)) := by kernel_rfl
 rw [show (10000 : Nat) = 9999 + 1 from rfl, run_equalIn_agg w 9999 173 _ _ hS (by kernel_rfl)]
 simp only [Program.fieldsOf, Tryz.underlying173]
 go_simp
 cases b0 <;> cases b1 <;> cases b2 <;> cases b3 <;> cases b4 <;> cases b5 <;> simp
theorem eqHasT {b0 b1 b2 b3 b4 b5 o : Bool} (h : (b0 || (b1 || (b2 || (b3 || (b4 || b5))))) = o) (w : World) : (Op.equalIn 10000 173 (.agg #[.bool b0, .bool b1, .bool b2, .bool b3, .bool b4, .bool b5]) (.agg #[.bool false, .bool false, .bool false, .bool false, .bool false, .bool false])).run Tryz.prog w = .ok (!o) w := h ▸ eqHas b0 b1 b2 b3 b4 b5 w
def okHas (b0 b1 b2 b3 b4 : Bool) : Bool := (!b1 || b0) && ((!b4 || b3) && ((!b4 || (!b0 && !b2)) && ((!b1 || (!b2 && !b3)) && !(b0 && (b2 && b3)) && (b4 || (!b3 || (b0 || b2))))))
theorem hasT_big {op : Nat} (h : 23 ≤ op) (j : Nat) : hasT op j = false := by
 unfold hasT
 split <;> simp <;> omega
theorem has_facts (op : Nat) : okHas (hasT op 0) (hasT op 1) (hasT op 2) (hasT op 3) (hasT op 4) = true ∧ decide (1 ≤ op ∧ op ≤ 22) = (hasT op 0 || (hasT op 1 || (hasT op 2 || (hasT op 3 || (hasT op 4 || hasT op 5))))) ∧ decide (op = 22) = hasT op 4 := by
 by_cases h : op < 23
 · revert op
   decide
 · rw [hasT_big (by omega), hasT_big (by omega), hasT_big (by omega), hasT_big (by omega), hasT_big (by omega), hasT_big (by omega)]
   refine ⟨by decide, ?_, ?_⟩ <;> simp <;> omega
theorem pall_is {w : World} {A : Option Addr} {c n : Nat} {xs : List Int} (hh : Hdr A xs.length c) (hx : IntsAt w 0 w.heap.size A xs) (hn : xs.length = n) (m : Int) {b : Bool} (hb : allB xs m = b) :
    Calls Tryz.prog 131 #[.slice A n c, .int .i64 m] w fun e w' => e = .returned (.bool b) ∧ Below w.heap.size w w' := hn ▸ pall_any hh hx m hb
def zero5 (b0 b1 b2 b3 b4 : Bool) (a b n : Int) (la lf : Nat) : Bool := (b0 || decide (a = 0)) && ((b1 || decide (b = 0)) && ((b2 || decide (n = 0)) && ((b3 || decide (la = 0)) && (b4 || decide (lf = 0)))))
def tailB (b4 : Bool) (la lf : Nat) (from_ : List Int) (bl : Int) : Bool := if b4 then allB from_ bl && (decide (lf = la) && (decide (1 ≤ lf) && decide (lf ≤ 16))) else decide (la ≤ 4)
theorem pins_split (x : PIns) (t f r bl : Int) {b0 b1 b2 b3 b4 b5 : Bool} (h : Has x.op b0 b1 b2 b3 b4 b5) :
    insB x t f r bl = (((b0 || (b1 || (b2 || (b3 || (b4 || b5))))) && ((!b0 || inB x.a r) && ((!b1 || inB x.b r) && (allB x.args r && numB x f)))) && (zero5 b0 b1 b2 b3 b4 x.a x.b x.n x.args.length x.from_.length && (typeB b5 x.ty t && tailB b4 x.args.length x.from_.length x.from_ bl))) := by
 obtain ⟨_, h1, h4⟩ := has_facts x.op
 unfold insB zero5 typeB tailB
 rw [h1]
 obtain ⟨e0, e1, e2, e3, e4, e5⟩ := h
 rw [e0, e1, e2, e3, e4, e5]
 rw [e4] at h4
 generalize (b0 || (b1 || (b2 || (b3 || (b4 || b5))))) = O
 generalize numB x f = N
 generalize inB x.a r = A
 generalize inB x.b r = B
 generalize allB x.args r = G
 generalize (if b5 = true then inB x.ty t else decide (x.ty = 0)) = T
 generalize decide (x.a = 0) = Z
 generalize decide (x.b = 0) = Y
 generalize decide (x.n = 0) = X
 generalize decide (x.args.length = 0) = L
 generalize decide (x.args.length ≤ 4) = K
 generalize allB x.from_ bl = F
 cases b4 with
 | true =>
   have : x.op = 22 := by simpa using h4
   rw [if_pos this]
   rw [show decide (1 ≤ x.from_.length ∧ x.from_.length ≤ 16) = (decide (1 ≤ x.from_.length) && decide (x.from_.length ≤ 16)) from by rw [Bool.eq_iff_iff]; simp]
   generalize decide (x.from_.length = x.args.length) = E
   generalize decide (1 ≤ x.from_.length) = D1
   generalize decide (x.from_.length ≤ 16) = D2
   simp only [Bool.true_or, Bool.true_and, Bool.and_true, if_true]
   ac_rfl
 | false =>
   have : x.op ≠ 22 := by simpa using h4
   rw [if_neg this]
   generalize decide (x.from_.length = 0) = E
   simp only [Bool.false_or, Bool.false_eq_true, if_false]
   ac_rfl
end Go.Proofs.YtbffebcjimhapaaGreatDoor
