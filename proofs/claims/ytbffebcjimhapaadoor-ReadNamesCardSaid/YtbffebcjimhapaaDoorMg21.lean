/-
  Texts that are read, told out. A line for each type, function, block, instruction and end. Plain law: lines joined anew with blanks, empty lines and what stands behind a # are the same lines.
-/
import Derived.Test.YtbffebcjimhapaaDoorMg20
namespace Go.Proofs.YtbffebcjimhapaaDoor
set_option linter.unusedVariables false
set_option linter.unusedSimpArgs false
open Go.ChangeShapes Go.WideShapes Go.ChangeAt Go.RowKit

/-- r1 t0 = add r0 r0, return r1. -/
def lit1 : ByteArray := ⟨#[114, 49, 32, 116, 48, 32, 61, 32, 97, 100, 100, 32, 114, 48, 32, 114, 48, 10, 114, 101, 116, 117, 114, 110, 32, 114, 49, 10]⟩
def lit2 : ByteArray := ⟨#[114, 50, 32, 116, 48, 32, 61, 32, 97, 100, 100, 32, 114, 48, 32, 114, 48, 10, 114, 101, 116, 117, 114, 110, 32, 114, 49, 10]⟩
def lit3 : ByteArray := ⟨#[114, 49, 32, 116, 48, 32, 61, 32, 97, 100, 100, 32, 114, 48, 32, 114, 48, 10]⟩
theorem ev1 : readA (toL (textS ++ lit1)) = (chapP chJ.data 0 1 true, 0) := by
  rw [toL_app]
  kernel_rfl
theorem ev2 : oddB (readA (toL (textS ++ lit2))) 70 = true := by
  rw [toL_app]
  kernel_rfl
theorem ev3 : oddB (readA (toL (textS ++ lit3))) 70 = true := by
  rw [toL_app]
  kernel_rfl
theorem same_chap {p : PrR} {g : Nat} (h : p.data = chapP chJ.data 0 1 true) : sameB p (chapR g chJ 0 1 true) = true := same_data.2 (by rw [h, chap_data])
set_option maxRecDepth 100000 in
set_option maxHeartbeats 3200000 in
theorem alive7_any (w : World) (hT : TabW w) : Calls Tryd.prog 10 #[] w fun e w' => e = .returned (.bool true) ∧ Below w.heap.size w w' := by
  have HR := Lib.hid (pread_any (textS ++ lit1) (by decide) w hT)
  rw [ev1] at HR
  have HT := Lib.hid hT
  have HTX := Lib.hid (fun (s : ByteArray) (hs : s.size ≤ 20000) (W : World) => text7_any s hs W)
  clear hT
  go_enter Tryd.func10, Tryd.ntmps10
  go_wp2_with (first
    | (go_at_call 9; refine (HTX.out lit1 (by decide) _).mono ?_; rintro e w0 ⟨rfl, rfl⟩)
    | (go_at_call 7; refine HR.out.mono ?_; rintro e w1 ⟨r, rfl, hown, hdat, hb⟩; have HB := Lib.hid hb; have HD := Lib.hid hdat; have HO := Lib.hid hown; clear hb hown hdat; obtain ⟨ta, tc, types, fa, fc, funs⟩ := r; unfold PrR.val; dsimp only at *))
  have HPB := Lib.hid (Blk.new w1 25 #[.slice ta types.length tc, .slice fa funs.length fc])
  have HBN := Lib.hid (HB.out.alloc HB.out.size (.cells #[.slice ta types.length tc, .slice fa funs.length fc] 25))
  have p0 := HPB.out.cells 0
  have p1 := HPB.out.cells 1
  have HON := Lib.hid (HO.out.keepOn (w' := w1.alloc (.cells #[.slice ta types.length tc, .slice fa funs.length fc] 25)) ((Below.refl _ _).alloc (Nat.le_refl _) _))
  refine wp_region_T (fun w' => w'.cell? ⟨w1.heap.size, 0, none⟩ = some (.slice ta types.length tc) ∧ w'.cell? ⟨w1.heap.size, 1, none⟩ = some (.slice fa funs.length fc)) 15 (by kernel_rfl) ⟨p0, p1⟩ (fun hHeld => ?_)
  refine wpAnyT_one (i := 0) (by kernel_rfl) rfl (fun K hK => ?_)
  go_simp
  refine hK.out _ _ (fun _ => ⟨p0, p1⟩) (fun hH => ?_); clear hHeld hK K; have hHeld := hH (by decide); clear hH
  refine wpAnyT_one (i := 1) (by kernel_rfl) rfl (fun K hK => ?_)
  go_simp
  refine hK.out _ _ (fun _ => ⟨p0, p1⟩) (fun hH => ?_); clear hHeld hK K; have hHeld := hH (by decide); clear hH
  refine wpAnyT_one (i := 2) (by kernel_rfl) rfl (fun K hK => ?_)
  go_simp
  refine hK.out _ _ (fun _ => ⟨p0, p1⟩) (fun hH => ?_); clear hHeld hK K; have hHeld := hH (by decide); clear hH
  refine wpAnyT_take (i := 3) (by kernel_rfl) (by decide) rfl (by kernel_rfl) (by kernel_rfl) (by kernel_rfl) (fun _ _ _ h => h) (Or.inl ⟨by rfl, by (intro w hSw; (try dsimp only at hSw); go_simp; (try with_reducible rfl))⟩) (by assumption) ?_; (try simp only [Act.put, List.setIfInBounds_toArray, List.set_cons_zero, List.set_cons_succ])
  refine wpAnyT_one (i := 4) (by kernel_rfl) rfl (fun K hK => ?_)
  go_simp
  refine (chapter7_any _).mono ?_
  rintro e w2 ⟨rfl, hch, hb2⟩
  have HCH := Lib.hid ((congrArg (fun g => Chap w2 g chJ 0 1 true) (World.size_alloc w1 (.cells #[.slice ta types.length tc, .slice fa funs.length fc] 25))).mp hch)
  have hbd : Below (w1.alloc (.cells #[.slice ta types.length tc, .slice fa funs.length fc] 25)).heap.size (w1.alloc (.cells #[.slice ta types.length tc, .slice fa funs.length fc] 25)) w2 := (Below.refl _ _).drew.trans hb2
  have HPB2 := Lib.hid (HPB.out.beneath hbd)
  have HB2 := Lib.hid (HBN.out.trans (hbd.mono HBN.out.size))
  have HO2 := Lib.hid (HON.out.keepOn hbd)
  clear hch hb2 hbd
  have q0 := HPB2.out.cells 0
  have q1 := HPB2.out.cells 1
  refine hK.out _ _ (fun _ => ⟨q0, q1⟩) (fun hH => ?_); clear hHeld hK K; have hHeld := hH (by decide); clear hH
  refine wpAnyT_one (i := 5) (by kernel_rfl) rfl (fun K hK => ?_)
  go_simp
  refine (rsame6_any (p := ⟨ta, tc, types, fa, fc, funs⟩) (o := chapR (w1.heap.size + 1) chJ 0 1 true) HO2.out.prog.1 (HCH.out.prog (chJ_ok _))).mono ?_
  rintro e w3 ⟨rfl, hb⟩
  rw [same_chap HD.out]
  have HPB3 := Lib.hid (HPB2.out.beneath hb)
  have HB3 := Lib.hid (HB2.out.trans (hb.mono HB2.out.size))
  clear hb
  have q3 := HPB3.out.cells 0
  have r3 := HPB3.out.cells 1
  refine hK.out _ _ (fun _ => ⟨q3, r3⟩) (fun hH => ?_); clear hHeld hK K; have hHeld := hH (by decide); clear hH
  refine wpAnyT_one (i := 6) (by kernel_rfl) rfl (fun K hK => ?_)
  go_simp
  refine hK.out _ _ (fun _ => ⟨q3, r3⟩) (fun hH => ?_); clear hHeld hK K; have hHeld := hH (by decide); clear hH
  refine wpAnyT_one (i := 7) (by kernel_rfl) rfl (fun K hK => ?_)
  go_simp
  refine hK.out _ _ (fun _ => ⟨q3, r3⟩) (fun hH => ?_); clear hHeld hK K; have hHeld := hH (by decide); clear hH
  refine wpAnyT_one (i := 8) (by kernel_rfl) rfl (fun K hK => ?_)
  go_simp
  refine (HTX.out lit2 (by decide) _).mono ?_
  rintro e wt8 ⟨rfl, hwt⟩
  subst wt8
  refine hK.out _ _ (fun _ => ⟨q3, r3⟩) (fun hH => ?_); clear hHeld hK K; have hHeld := hH (by decide); clear hH
  refine wpAnyT_one (i := 9) (by kernel_rfl) rfl (fun K hK => ?_)
  go_simp
  refine (odd7_any (textS ++ lit2) (by decide) 70 _ (HT.out.on HB3.out)).mono ?_
  rintro e w4 ⟨rfl, hb⟩
  rw [ev2]
  have HPB4 := Lib.hid (HPB3.out.beneath hb)
  have HB4 := Lib.hid (HB3.out.trans (hb.mono HB3.out.size))
  clear hb
  have q4 := HPB4.out.cells 0
  have r4 := HPB4.out.cells 1
  refine hK.out _ _ (fun _ => ⟨q4, r4⟩) (fun hH => ?_); clear hHeld hK K; have hHeld := hH (by decide); clear hH
  refine wpAnyT_one (i := 10) (by kernel_rfl) rfl (fun K hK => ?_)
  go_simp
  refine hK.out _ _ (fun _ => ⟨q4, r4⟩) (fun hH => ?_); clear hHeld hK K; have hHeld := hH (by decide); clear hH
  refine wpAnyT_one (i := 11) (by kernel_rfl) rfl (fun K hK => ?_)
  go_simp
  refine hK.out _ _ (fun _ => ⟨q4, r4⟩) (fun hH => ?_); clear hHeld hK K; have hHeld := hH (by decide); clear hH
  refine wpAnyT_one (i := 12) (by kernel_rfl) rfl (fun K hK => ?_)
  go_simp
  refine (HTX.out lit3 (by decide) _).mono ?_
  rintro e wt12 ⟨rfl, hwt⟩
  subst wt12
  refine hK.out _ _ (fun _ => ⟨q4, r4⟩) (fun hH => ?_); clear hHeld hK K; have hHeld := hH (by decide); clear hH
  refine wpAnyT_one (i := 13) (by kernel_rfl) rfl (fun K hK => ?_)
  go_simp
  refine (odd7_any (textS ++ lit3) (by decide) 70 _ (HT.out.on HB4.out)).mono ?_
  rintro e w5 ⟨rfl, hb⟩
  rw [ev3]
  have HPB5 := Lib.hid (HPB4.out.beneath hb)
  have HB5 := Lib.hid (HB4.out.trans (hb.mono HB4.out.size))
  clear hb
  have q5 := HPB5.out.cells 0
  have r5 := HPB5.out.cells 1
  refine hK.out _ _ (fun _ => ⟨q5, r5⟩) (fun hH => ?_); clear hHeld hK K; have hHeld := hH (by decide); clear hH
  refine wpAnyT_one (i := 14) (by kernel_rfl) rfl (fun K hK => ?_)
  go_simp
  refine hK.out _ _ (fun _ => ⟨q5, r5⟩) (fun hH => ?_); clear hHeld hK K; have hHeld := hH (by decide); clear hH
  refine wpAnyT_one (i := 15) (by kernel_rfl) rfl (fun K hK => ?_)
  go_simp
  refine hK.out _ _ (fun e => absurd rfl e) (fun hH => ?_); refine wpAnyT_done (by kernel_rfl) ?_ _; clear hHeld hK K hH
  go_wp2_with fail
  go_ret
  exact ⟨rfl, HB5.out⟩
end Go.Proofs.YtbffebcjimhapaaDoor
namespace Go.Proofs.YtbffebcjimhapaaDoor
set_option linter.unusedVariables false
set_option linter.unusedSimpArgs false
open Go.ChangeShapes Go.WideShapes Go.ChangeAt Go.RowKit

theorem readA_inv {s : Bs} {p : PProg} (h : readA s = (p, 0)) : ∃ m, linesP s = some m ∧ programQ m = some p ∧ checkP p = 0 := by
  cases hl : linesP s with
  | none =>
    rw [readA_none hl] at h
    injection h with _ h
    exact absurd h (by decide)
  | some m =>
    cases hq : programQ m with
    | none =>
      rw [readA_bad hl hq] at h
      injection h with _ h
      exact absurd h (by decide)
    | some q =>
      by_cases hc : checkP q = 0
      · rw [readA_ok hl hq hc] at h
        injection h with h1 _
        subst h1
        exact ⟨m, rfl, hq, hc⟩
      · rw [readA_check hl hq hc] at h
        injection h with _ h
        exact absurd h hc
theorem readA_err {s : Bs} {p : PProg} {e : Int} (h : readA s = (p, e)) (he : e ≠ 0) : p = noProg := by
  cases hl : linesP s with
  | none =>
    rw [readA_none hl] at h
    injection h with h _
    exact h.symm
  | some m =>
    cases hq : programQ m with
    | none =>
      rw [readA_bad hl hq] at h
      injection h with h _
      exact h.symm
    | some q =>
      by_cases hc : checkP q = 0
      · rw [readA_ok hl hq hc] at h
        injection h with _ h
        exact absurd h.symm he
      · rw [readA_check hl hq hc] at h
        injection h with h _
        exact h.symm
def cntB (bs : List PBlk) : Nat := (bs.map fun b => b.ins.length + 2).sum
def cntF (fs : List PFun) : Nat := (fs.map fun f => cntB f.blocks + 1).sum
theorem cntB_app (a b : List PBlk) : cntB (a ++ b) = cntB a + cntB b := by unfold cntB; rw [List.map_append, List.sum_append]
theorem cntF_app (a b : List PFun) : cntF (a ++ b) = cntF a + cntF b := by unfold cntF; rw [List.map_append, List.sum_append]
theorem cntB_next {l : List PBlk} {k : Nat} (h : k < l.length) : cntB (l.take (k + 1)) = cntB (l.take k) + ((l.getD k default).ins.length + 2) := by
  rw [take_succ_getD (d := default) h, cntB_app]
  rfl
theorem cntF_next {l : List PFun} {k : Nat} (h : k < l.length) : cntF (l.take (k + 1)) = cntF (l.take k) + (cntB (l.getD k default).blocks + 1) := by
  rw [take_succ_getD (d := default) h, cntF_app]
  rfl
theorem cntB_le (l : List PBlk) (k : Nat) : cntB (l.take k) ≤ cntB l := by
  conv => rhs; rw [← List.take_append_drop k l]
  rw [cntB_app]
  omega
theorem cntF_le (l : List PFun) (k : Nat) : cntF (l.take k) ≤ cntF l := by
  conv => rhs; rw [← List.take_append_drop k l]
  rw [cntF_app]
  omega
theorem funsR_count : ∀ (n : Nat) (types : List Ty) (L : List (List Bs)) (fs : List PFun), L.length ≤ n → funsR types L = some fs → cntF fs = L.length
  | _, types, [], fs, _, h => by
    have h : some [] = some fs := h
    injection h with h
    subst h
    rfl
  | 0, _, _ :: _, _, h, _ => absurd h (by simp)
  | n + 1, types, l :: t, fs, hn, h => by
    rw [funsR_cons] at h
    split at h
    · split at h
      · rename_i q hq
        obtain ⟨z, hz, rfl⟩ := Option.map_eq_some_iff.1 h
        have h1 := functionQ_len hq
        simp only [List.length_cons] at hn ⊢
        have h2 := funsR_count n types q.2 z (by omega) hz
        show cntB q.1.blocks + 1 + cntF z = _
        unfold cntB
        omega
      · cases h
    · cases h
theorem programQ_count {L : List (List Bs)} {p : PProg} (h : programQ L = some p) : p.types.length + cntF p.funs = L.length := by
  unfold programQ at h
  split at h
  · rename_i z hz
    obtain ⟨fs, hfs, rfl⟩ := Option.map_eq_some_iff.1 h
    have h1 := typesQ_len L z hz
    have h2 := funsR_count _ _ _ _ (Nat.le_refl _) hfs
    show z.1.length + cntF fs = _
    omega
  · cases h
end Go.Proofs.YtbffebcjimhapaaDoor
namespace Go.Proofs.YtbffebcjimhapaaDoor
set_option linter.unusedVariables false
set_option linter.unusedSimpArgs false
open Go.ChangeShapes Go.WideShapes Go.ChangeAt Go.RowKit

def noiseW (ws : List Bs) : Bs := ws.flatMap fun w => 32 :: 9 :: w
def noiseL (ws : List Bs) : Bs := noiseW ws ++ [35, 32, 114, 48, 13, 10, 10]
def noiseT (l : List (List Bs)) : Bs := [35, 32, 10] ++ l.flatMap noiseL
theorem out_noiseW {r : Bs} {ls : List (List Bs)} (hr : ∀ c t, r = c :: t → isPlain c = false) : ∀ (ws acc : List Bs), (∀ w ∈ ws, mayW w = true) → outR (noiseW ws ++ r) acc ls = outR r (acc ++ ws) ls
  | [], acc, _ => by rw [List.append_nil]; rfl
  | w :: ws, acc, h => by
    have hw := h w List.mem_cons_self
    unfold mayW spB at hw
    rw [Bool.and_eq_true, Bool.not_eq_true', Bool.not_eq_true', List.any_eq_false] at hw
    show outR (((32 :: 9 :: w) ++ noiseW ws) ++ r) acc ls = _
    rw [List.append_assoc, List.cons_append, List.cons_append, out_blank (by decide), out_blank (by decide), out_word (by rintro rfl; exact absurd hw.1 (by decide)) (fun c hc => by simpa using hw.2 c hc) ?_, out_noiseW hr ws (acc ++ [w]) (fun v hv => h v (List.mem_cons_of_mem _ hv)), List.append_assoc]
    · rfl
    · intro c t e
      cases ws with
      | nil => exact hr c t e
      | cons v vs =>
        have e : (32 :: 9 :: v) ++ noiseW vs ++ r = c :: t := e
        have e2 : (32 : UInt8) = c := (List.cons.inj e).1
        rw [← e2]
        decide
theorem out_noiseL {ws : List Bs} {r : Bs} {ls : List (List Bs)} (hne : ws ≠ []) (h : ∀ w ∈ ws, mayW w = true) (hl : ws.length ≤ 64) : outR (noiseL ws ++ r) [] ls = outR r [] (ls ++ [ws]) := by
  unfold noiseL
  rw [List.append_assoc, out_noiseW (fun c t e => by
    have e : 35 :: ([32, 114, 48, 13, 10, 10] ++ r) = c :: t := e
    have e2 : (35 : UInt8) = c := (List.cons.inj e).1
    rw [← e2]
    decide) ws [] h, List.nil_append]
  show outR (35 :: (32 :: 114 :: 48 :: 13 :: 10 :: 10 :: r)) ws ls = _
  rw [out_hash]
  have hd : (32 :: 114 :: 48 :: 13 :: 10 :: 10 :: r : Bs).dropWhile (· != 10) = 10 :: 10 :: r := rfl
  have he : ws.isEmpty = false := by
    cases ws with
    | nil => exact absurd rfl hne
    | cons a t => rfl
  rw [hd, out_feed, if_neg (by omega), he, out_feed, if_neg (by show ¬ 64 < ([] : List Bs).length; decide)]
  show outR r [] ((ls ++ [ws]) ++ []) = _
  rw [List.append_nil]
theorem out_noiseT : ∀ (l ls : List (List Bs)), (∀ ws ∈ l, ws ≠ [] ∧ (∀ w ∈ ws, mayW w = true) ∧ ws.length ≤ 64) → outR (l.flatMap noiseL) [] ls = some (ls ++ l)
  | [], ls, _ => by
    show outR [] [] ls = _
    rw [out_nil, if_neg (by show ¬ 64 < ([] : List Bs).length; decide)]
    rfl
  | ws :: l, ls, h => by
    obtain ⟨h1, h2, h3⟩ := h ws List.mem_cons_self
    rw [List.flatMap_cons, out_noiseL h1 h2 h3, out_noiseT l (ls ++ [ws]) (fun v hv => h v (List.mem_cons_of_mem _ hv)), List.append_assoc]
    rfl
theorem lines_noise {s : Bs} {m : List (List Bs)} (h : linesP s = some m) (hl : (noiseT m).length ≤ 16384) : linesP (noiseT m) = some m := by
  have h1 := lines_full h
  have h2 := lines64 h
  unfold linesP
  rw [if_neg (by omega)]
  unfold noiseT
  show outR (35 :: (32 :: 10 :: m.flatMap noiseL)) [] [] = _
  rw [out_hash]
  have hd : (32 :: 10 :: m.flatMap noiseL : Bs).dropWhile (· != 10) = 10 :: m.flatMap noiseL := rfl
  rw [hd, out_feed, if_neg (by show ¬ 64 < ([] : List Bs).length; decide)]
  show outR (m.flatMap noiseL) [] ([] ++ []) = _
  rw [List.append_nil, out_noiseT m [] (fun ws hw => ⟨(h1 ws hw).1, (h1 ws hw).2, h2 ws hw⟩)]
  rfl
theorem readA_noise {s : Bs} {m : List (List Bs)} (h : linesP s = some m) (hl : (noiseT m).length ≤ 16384) : readA (noiseT m) = readA s := by
  have h2 := lines_noise h hl
  unfold readA
  rw [h, h2]
theorem noiseW_snoc (ws : List Bs) (w : Bs) : noiseW (ws ++ [w]) = noiseW ws ++ (32 :: 9 :: w) := by
  unfold noiseW
  rw [List.flatMap_append]
  simp
theorem noiseT_snoc (l : List (List Bs)) (ws : List Bs) : noiseT (l ++ [ws]) = noiseT l ++ noiseL ws := by
  unfold noiseT
  rw [List.flatMap_append]
  simp
theorem noiseW_len {B : Nat} : ∀ ws : List Bs, (∀ w ∈ ws, w.length ≤ B) → (noiseW ws).length ≤ ws.length * (B + 2)
  | [], _ => Nat.zero_le _
  | w :: ws, h => by
    have h1 := noiseW_len ws (fun v hv => h v (List.mem_cons_of_mem _ hv))
    have h2 := h w List.mem_cons_self
    show ((32 :: 9 :: w) ++ noiseW ws).length ≤ _
    rw [List.length_append, List.length_cons, List.length_cons, List.length_cons, Nat.add_mul]
    omega
theorem noiseT_len : ∀ l : List (List Bs), (∀ ws ∈ l, ws.length ≤ 64 ∧ ∀ w ∈ ws, w.length ≤ 3000) → (noiseT l).length ≤ 3 + l.length * 200000 := by
  intro l h
  unfold noiseT
  rw [List.length_append]
  have : ∀ l : List (List Bs), (∀ ws ∈ l, ws.length ≤ 64 ∧ ∀ w ∈ ws, w.length ≤ 3000) → (l.flatMap noiseL).length ≤ l.length * 200000 := by
    intro l
    induction l with
    | nil => intro _; exact Nat.zero_le _
    | cons ws t ih =>
      intro h
      have h1 := ih (fun v hv => h v (List.mem_cons_of_mem _ hv))
      obtain ⟨h2, h3⟩ := h ws List.mem_cons_self
      have h4 := noiseW_len ws h3
      have h5 : ws.length * (3000 + 2) ≤ 64 * 3002 := Nat.mul_le_mul_right _ h2
      have h6 : (noiseL ws).length = (noiseW ws).length + 7 := by unfold noiseL; rw [List.length_append]; rfl
      rw [List.flatMap_cons, List.length_append, List.length_cons, Nat.add_mul]
      omega
  have h1 := this l h
  simp only [List.length_cons, List.length_nil]
  omega
end Go.Proofs.YtbffebcjimhapaaDoor
