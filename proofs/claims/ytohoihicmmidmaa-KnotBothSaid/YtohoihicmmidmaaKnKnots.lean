/-
  The program's knots.
-/
import Derived.Test.YtohoihicmmidmaaKnVisit
import Derived.Laws.EntriesVeiled
namespace Go.Proofs.Ytohoihicmmidmaa
set_option linter.unusedVariables false
set_option linter.unusedSimpArgs false
open Go.Instr
open Go.ChangeShapes Go.WideShapes Go.ChangeAt Go.RowKit Kn

theorem visit_any {d : Ads} {n : Nat} {l : List (Int × Int)} {vs : List Value} {w0 : World} (hn : n ≤ 1000) (hll : l.length ≤ 10000) (hok : okG n l) : ∀ f, VisitOk d n l vs w0 f
  | 0 => by
    intro w s g a hf I ha hna hg hst
    have := few_lt I.nd I.lt ha hna
    omega
  | f + 1 => visit_step hn hll hok (visit_any hn hll hok f)
/-- The variables, as the walk lays them. -/
def adsOf (h q z : Nat) : Ads := { gn := h, ga := h + 1, gp := h + 1 + 1, T := h + 1 + 1 + 1, gt := q, P := q + 1, M := z, gk := z + 1, go := z + 1 + 1, gv := z + 1 + 1 + 1, H := z + 1 + 1 + 1 + 1 }
def visitV (h q z : Nat) : Value := .func (.func 31) #[] #[.pointer (some ⟨z + 1, 0, none⟩), .pointer (some ⟨z + 1 + 1, 0, none⟩), .pointer (some ⟨q, 0, none⟩), .pointer (some ⟨z + 1 + 1 + 1, 0, none⟩), .pointer (some ⟨h + 1, 0, none⟩), .pointer (some ⟨h + 1 + 1, 0, none⟩), .pointer (some ⟨h, 0, none⟩)]
theorem placeL_nil (n : Nat) : nI (placeL n []) = List.replicate n 0 := by
  apply List.ext_getElem
  · simp [nI, placeL]
  · intro i h1 h2
    simp [nI, placeL, placeOf]
theorem start_kc {w w4 W6 : World} {n : Nat} {l : List (Int × Int)} {vs : List Value} (hT : Tos w4 (w.heap.size + 1 + 1 + 1) (w.heap.size + 1 + 1 + 1) n vs (toL l)) (hs : W6.heap.size = w4.heap.size + 1 + 1)
    (J0 : Blk W6 w.heap.size 3 #[.int .i64 (n : Int)]) (J1 : Blk W6 (w.heap.size + 1) 43 #[.slice none 0 0]) (J2 : Blk W6 (w.heap.size + 1 + 1) 25 #[.slice none 0 0])
    (J3 : Blk W6 w4.heap.size 43 #[.slice (some ⟨w.heap.size + 1 + 1 + 1, 0, none⟩) n n]) (J4 : IBlk W6 (w4.heap.size + 1) (List.replicate n 0)) (JT : Tos W6 (w.heap.size + 1 + 1 + 1) (w.heap.size + 1 + 1 + 1) n vs (toL l)) (JB : Below w.heap.size w W6) :
    KC w (((((W6.setCell ⟨w.heap.size + 1 + 1, 0, none⟩ (.slice (some ⟨w4.heap.size + 1, 0, none⟩) n n)).alloc (.map #[] 0)).alloc (.cells #[.map (some W6.heap.size)] 55)).alloc (.cells #[.slice none 0 0] 25)).alloc (.cells #[visitV w.heap.size w4.heap.size W6.heap.size] 56))
      (adsOf w.heap.size w4.heap.size W6.heap.size) n l vs 0 (knownF [] []) (placeL n []) (.slice none 0 0) [] (.slice none 0 0) [] [] := by
  have l0 := hT.blk.lt
  have e1 : (W6.setCell ⟨w.heap.size + 1 + 1, 0, none⟩ (.slice (some ⟨w4.heap.size + 1, 0, none⟩) n n)).heap.size = W6.heap.size := by simp [World.setCell]
  have B1 := J2.put 0 (.slice (some ⟨w4.heap.size + 1, 0, none⟩) n n)
  obtain ⟨V1, hV1⟩ : ∃ V1, W6.setCell ⟨w.heap.size + 1 + 1, 0, none⟩ (.slice (some ⟨w4.heap.size + 1, 0, none⟩) n n) = V1 := ⟨_, rfl⟩
  have K0 := J0.far (p := ⟨w.heap.size + 1 + 1, 0, none⟩) (by show w.heap.size ≠ w.heap.size + 1 + 1; omega) (.slice (some ⟨w4.heap.size + 1, 0, none⟩) n n)
  have K1 := J1.far (p := ⟨w.heap.size + 1 + 1, 0, none⟩) (by show w.heap.size + 1 ≠ w.heap.size + 1 + 1; omega) (.slice (some ⟨w4.heap.size + 1, 0, none⟩) n n)
  have K3 := J3.far (p := ⟨w.heap.size + 1 + 1, 0, none⟩) (by show w4.heap.size ≠ w.heap.size + 1 + 1; omega) (.slice (some ⟨w4.heap.size + 1, 0, none⟩) n n)
  have K4 := IBlk.far J4 (p := ⟨w.heap.size + 1 + 1, 0, none⟩) (by show w4.heap.size + 1 ≠ w.heap.size + 1 + 1; omega) (.slice (some ⟨w4.heap.size + 1, 0, none⟩) n n)
  have KT : Tos V1 (w.heap.size + 1 + 1 + 1) (w.heap.size + 1 + 1 + 1) n vs (toL l) := by
    rw [← hV1]
    exact (Turn.set W6 ⟨w.heap.size + 1 + 1, 0, none⟩ _).tos JT (by show ¬ w.heap.size + 1 + 1 + 1 = w.heap.size + 1 + 1; omega) (fun a ha k hk e => by
      have h1 := ((JT.own a ha).blockLt k hk).1
      have h2 : k = w.heap.size + 1 + 1 := e
      omega)
  have KB : Below w.heap.size w V1 := by rw [← hV1]; exact JB.setCell (by show w.heap.size ≤ w.heap.size + 1 + 1; omega) _
  rw [hV1] at e1 B1 K0 K1 K3 K4
  rw [hV1]
  clear hV1 J0 J1 J2 J3 J4 JT JB
  -- the four new blocks
  have b2 : Below V1.heap.size V1 (V1.alloc (.map #[] 0)) := (Below.refl _ _).alloc (Nat.le_refl _) _
  have M1 := KMap.made V1
  obtain ⟨V2, hV2⟩ : ∃ V2, V1.alloc (.map #[] 0) = V2 := ⟨_, rfl⟩
  have e2 : V2.heap.size = W6.heap.size + 1 := by rw [← hV2, World.size_alloc, e1]
  rw [hV2] at b2 M1 ⊢
  rw [e1] at M1 b2
  clear hV2
  have b3 : Below V2.heap.size V2 (V2.alloc (.cells #[.map (some W6.heap.size)] 55)) := (Below.refl _ _).alloc (Nat.le_refl _) _
  have N1 := Blk.new V2 55 #[.map (some W6.heap.size)]
  obtain ⟨V3, hV3⟩ : ∃ V3, V2.alloc (.cells #[.map (some W6.heap.size)] 55) = V3 := ⟨_, rfl⟩
  have e3 : V3.heap.size = W6.heap.size + 1 + 1 := by rw [← hV3, World.size_alloc, e2]
  rw [hV3] at b3 N1 ⊢
  rw [e2] at N1
  clear hV3
  have b4 : Below V3.heap.size V3 (V3.alloc (.cells #[.slice none 0 0] 25)) := (Below.refl _ _).alloc (Nat.le_refl _) _
  have O1 := Blk.new V3 25 #[.slice none 0 0]
  obtain ⟨V4, hV4⟩ : ∃ V4, V3.alloc (.cells #[.slice none 0 0] 25) = V4 := ⟨_, rfl⟩
  have e4 : V4.heap.size = W6.heap.size + 1 + 1 + 1 := by rw [← hV4, World.size_alloc, e3]
  rw [hV4] at b4 O1 ⊢
  rw [e3] at O1
  clear hV4
  have b5 : Below V4.heap.size V4 (V4.alloc (.cells #[visitV w.heap.size w4.heap.size W6.heap.size] 56)) := (Below.refl _ _).alloc (Nat.le_refl _) _
  have F1 := Blk.new V4 56 #[visitV w.heap.size w4.heap.size W6.heap.size]
  obtain ⟨V5, hV5⟩ : ∃ V5, V4.alloc (.cells #[visitV w.heap.size w4.heap.size W6.heap.size] 56) = V5 := ⟨_, rfl⟩
  have e5 : V5.heap.size = W6.heap.size + 1 + 1 + 1 + 1 := by rw [← hV5, World.size_alloc, e4]
  rw [hV5] at b5 F1 ⊢
  rw [e4] at F1
  clear hV5
  have c12 : Below V1.heap.size V1 V5 := (((show Below V1.heap.size V1 V2 from e1 ▸ b2).trans (b3.mono (by omega))).trans (b4.mono (by omega))).trans (b5.mono (by omega))
  have c2 : Below V2.heap.size V2 V5 := (b3.trans (b4.mono (by omega))).trans (b5.mono (by omega))
  have c3 : Below V3.heap.size V3 V5 := b4.trans (b5.mono (by omega))
  have ts := Turn.below (Below.refl V5.heap.size V5)
  have FV := F1
  have KT5 := KT.keep c12
  have OB : Below w.heap.size w V5 := KB.trans (c12.mono KB.size)
  refine ⟨⟨?_, ?_, ?_, ?_, ?_, ?_, ?_, ?_, ?_, ?_⟩, ?_, ?_, ?_, ?_, ?_, ⟨?_, ?_, ?_, ?_, ?_, ?_, ?_⟩, ?_, ?_, ?_, ?_, ?_, ?_, ?_, ?_⟩
  all_goals try (show _ < _; simp only [adsOf]; omega)
  · exact ts.os.trans OB.os
  · exact ts.tape.trans OB.tape
  · exact ts.output.trans OB.output
  · show W6.heap.size + 1 + 1 + 1 + 1 ≤ _
    have := ts.size; omega
  · intro k hk
    have hk' : k < w.heap.size := hk
    exact (ts.block k (by have := OB.size; omega) id).trans (OB.block k hk')
  · exact ts.blk (N1.beneath c3) id
  · exact ts.blk (K3.beneath c12) id
  · exact FV
  · exact ts.blk (B1.beneath c12) id
  · exact ts.blk (K0.beneath c12) id
  · exact ts.tos KT5 id (fun a ha k hk => id)
  · intro a ha k hk
    have := ((hT.own a ha).blockLt k hk).2
    exact this
  · have hm : KMap V5 W6.heap.size 0 (fun _ => none) := M1.kept (c2.block _ (by omega))
    refine (ts.kmap hm id).congr (fun a => ?_)
    simp [knownF]
  · rw [placeL_nil]
    exact ts.iblk (K4.beneath c12) id
  · exact ts.blk (O1.beneath (b5)) id
  · exact OwnInts.nil _ _
  · exact ts.blk (K1.beneath c12) id
  · exact World.ownsRow_nil _ _ _ _
  · intro i hi; cases hi
  · intro i hi; cases hi
/-- The knots, as they are answered. -/
structure AllAt (w : World) (lo : Nat) (va : Value) (rows : List Value) (all : List (List Nat)) : Prop where
  row : w.ownsRow lo 25 1 va all.length rows
  inner : ∀ i, i < all.length → OwnInts w lo (rows.getD i undef) (nI (all.getD i []))
def SomeKnots (n : Nat) (l : List (Int × Int)) (w : World) (e : Ending) (w' : World) : Prop :=
  ∃ va P rows, e = .returned (.tuple #[va, .slice (some ⟨P, 0, none⟩) n n]) ∧ w.heap.size ≤ P ∧ IBlk w' P (nI (placeL n (knotsP (toL l) n n).all)) ∧ AllAt w' w.heap.size va rows (knotsP (toL l) n n).all ∧ Below w.heap.size w w'
set_option maxHeartbeats 3200000 in
theorem knots_any {w : World} {A : Option Addr} {c : Nat} {l : List (Int × Int)} {n : Nat} (hx : GIn w A c l) (hn : n ≤ 1000) (hll : l.length ≤ 10000) (hok : okG n l) :
    Calls Try.prog 20 #[.int .i64 n, .slice A l.length c] w (SomeKnots n l w) := by
  have eg := enters_visit
  have HX := Lib.hid hx
  have HOK := Lib.hid hok
  have hmk := make_ints n (by omega)
  have hmm := @run_makeMap Try.prog
  have hw3 : Below w.heap.size w (((w.alloc (.cells #[.int .i64 (n : Int)] 3)).alloc (.cells #[.slice none 0 0] 43)).alloc (.cells #[.slice none 0 0] 25)) := ((((Below.refl _ _).alloc (Nat.le_refl _) _)).alloc (by simp) _).alloc (by simp; omega) _
  have HB0 := Lib.hid hw3
  have hs3 : (((w.alloc (.cells #[.int .i64 (n : Int)] 3)).alloc (.cells #[.slice none 0 0] 43)).alloc (.cells #[.slice none 0 0] 25)).heap.size = w.heap.size + 1 + 1 + 1 := by simp
  have b0 : Blk (((w.alloc (.cells #[.int .i64 (n : Int)] 3)).alloc (.cells #[.slice none 0 0] 43)).alloc (.cells #[.slice none 0 0] 25)) w.heap.size 3 #[.int .i64 (n : Int)] := ((Blk.new w _ _).alloc _).alloc _
  have b1 : Blk (((w.alloc (.cells #[.int .i64 (n : Int)] 3)).alloc (.cells #[.slice none 0 0] 43)).alloc (.cells #[.slice none 0 0] 25)) (w.heap.size + 1) 43 #[.slice none 0 0] := (Blk.new2 w _ _ _).alloc _
  have b2 : Blk (((w.alloc (.cells #[.int .i64 (n : Int)] 3)).alloc (.cells #[.slice none 0 0] 43)).alloc (.cells #[.slice none 0 0] 25)) (w.heap.size + 1 + 1) 25 #[.slice none 0 0] := by
    have h := Blk.new ((w.alloc (.cells #[.int .i64 (n : Int)] 3)).alloc (.cells #[.slice none 0 0] 43)) 25 #[.slice none 0 0]
    rw [World.size_alloc, World.size_alloc] at h
    exact h
  have hC := out_any (HX.out.on hw3) hn hll hok
  rw [hs3] at hC
  have HC := Lib.hid hC
  have H0 := Lib.hid b0
  have H1 := Lib.hid b1
  have H2 := Lib.hid b2
  have HS3 := Lib.hid hs3
  clear hx hok hw3 hC b0 b1 b2 hs3
  go_enter Try.func20, Try.ntmps20
  go_wp2_with fail
  refine HC.out.mono ?_
  rintro e w4 ⟨rfl, ⟨vs, htos⟩, hb4⟩
  have HT := Lib.hid htos
  rw [← HS3.out] at hb4
  have HB4 := Lib.hid hb4
  have h0 := H0.out.beneath hb4
  have h1 := H1.out.beneath hb4
  have h2 := H2.out.beneath hb4
  have c0 : w4.cell? ⟨w.heap.size, 0, none⟩ = some (.int .i64 (n : Int)) := h0.cells 0
  have c1 : w4.cell? ⟨w.heap.size + 1, 0, none⟩ = some (.slice none 0 0) := h1.cells 0
  have c2 : w4.cell? ⟨w.heap.size + 1 + 1, 0, none⟩ = some (.slice none 0 0) := h2.cells 0
  have f2 := h2.free 0
  have l0 := h0.lt
  have l2 := h2.lt
  have G0 := Lib.hid h0
  have G1 := Lib.hid h1
  have G2 := Lib.hid h2
  clear htos hb4 h0 h1 h2
  have hb5 : Below w4.heap.size w4 ((w4.alloc (.cells #[.slice (some ⟨w.heap.size + 1 + 1 + 1, 0, none⟩) n n] 43)).alloc (.cells (madeCells #[.int .i64 0] n) 3)) := ((Below.refl _ _).alloc (Nat.le_refl _) _).alloc (by simp) _
  obtain ⟨W6, hW6⟩ : ∃ W6, (w4.alloc (.cells #[.slice (some ⟨w.heap.size + 1 + 1 + 1, 0, none⟩) n n] 43)).alloc (.cells (madeCells #[.int .i64 0] n) 3) = W6 := ⟨_, rfl⟩
  have hs6 : W6.heap.size = w4.heap.size + 1 + 1 := by rw [← hW6]; simp
  have h0 : Blk W6 w.heap.size 3 #[.int .i64 (n : Int)] := by rw [← hW6]; exact G0.out.beneath hb5
  have h1 : Blk W6 (w.heap.size + 1) 43 #[.slice none 0 0] := by rw [← hW6]; exact G1.out.beneath hb5
  have h2 : Blk W6 (w.heap.size + 1 + 1) 25 #[.slice none 0 0] := by rw [← hW6]; exact G2.out.beneath hb5
  have h3 : Blk W6 w4.heap.size 43 #[.slice (some ⟨w.heap.size + 1 + 1 + 1, 0, none⟩) n n] := by rw [← hW6]; exact (Blk.new w4 _ _).alloc _
  have h4 : IBlk W6 (w4.heap.size + 1) (List.replicate n 0) := by
    have := IBlk.made (w4.alloc (.cells #[.slice (some ⟨w.heap.size + 1 + 1 + 1, 0, none⟩) n n] 43)) n
    rw [World.size_alloc, hW6] at this
    exact this
  have ht : Tos W6 (w.heap.size + 1 + 1 + 1) (w.heap.size + 1 + 1 + 1) n vs (toL l) := by rw [← hW6]; exact HT.out.keep hb5
  have hb6 : Below w.heap.size w W6 := by rw [← hW6]; exact (HB0.out.trans (HB4.out.mono HB0.out.size)).trans (hb5.mono (by omega))
  have HW6 := Lib.hid hW6
  have J0 := Lib.hid h0
  have J1 := Lib.hid h1
  have J2 := Lib.hid h2
  have J3 := Lib.hid h3
  have J4 := Lib.hid h4
  have JT := Lib.hid ht
  have JB := Lib.hid hb6
  have JS := Lib.hid hs6
  clear hb5 h0 h1 h2 h3 h4 ht hb6 hW6 hs6
  obtain ⟨i0, hi, hz0, hz1, hz2⟩ := info_parts intInfo
  go_wp2_with (at_make; refine wpList_make_row (P := Try.prog) _ rfl (.tmp 16) (.tmp 16) 25 rfl 3 i0 (.int .i64 0) Try.underlying25 hi hz0 hz1 rfl .i64 .i64 n rfl rfl (by rw [hz2]; omega) (by omega) ?_; refine pause ?_)
  rw [HW6.out]
  have d0 : W6.cell? ⟨w.heap.size, 0, none⟩ = some (.int .i64 (n : Int)) := J0.out.cells 0
  have d2 : W6.cell? ⟨w.heap.size + 1 + 1, 0, none⟩ = some (.slice none 0 0) := J2.out.cells 0
  have g2 := J2.out.free 0
  have m0 := J0.out.lt
  have m2 := J2.out.lt
  clear c0 c1 c2 f2 l2 l0
  have hkc := start_kc HT.out JS.out J0.out J1.out J2.out J3.out J4.out JT.out JB.out
  have hF := Blk.new (((((W6.setCell ⟨w.heap.size + 1 + 1, 0, none⟩ (.slice (some ⟨w4.heap.size + 1, 0, none⟩) n n)).alloc (.map #[] 0)).alloc (.cells #[.map (some W6.heap.size)] 55)).alloc (.cells #[.slice none 0 0] 25))) 56 #[.nilFunc]
  have hsz : (((((W6.setCell ⟨w.heap.size + 1 + 1, 0, none⟩ (.slice (some ⟨w4.heap.size + 1, 0, none⟩) n n)).alloc (.map #[] 0)).alloc (.cells #[.map (some W6.heap.size)] 55)).alloc (.cells #[.slice none 0 0] 25))).heap.size = W6.heap.size + 1 + 1 + 1 := by simp [World.setCell]
  rw [hsz] at hF
  have v0 : ((((((W6.setCell ⟨w.heap.size + 1 + 1, 0, none⟩ (.slice (some ⟨w4.heap.size + 1, 0, none⟩) n n)).alloc (.map #[] 0)).alloc (.cells #[.map (some W6.heap.size)] 55)).alloc (.cells #[.slice none 0 0] 25)).alloc (.cells #[.nilFunc] 56))).cell? ⟨W6.heap.size + 1 + 1 + 1, 0, none⟩ = some .nilFunc := hF.cells 0
  have v1 := hF.free 0
  have hcc := hkc.cells
  unfold visitV at hkc hcc
  simp only [adsOf] at hcc
  obtain ⟨q1, q2, q3, q4, q5, q6, q7, q8, q9⟩ := hcc
  have HKC := Lib.hid hkc
  clear hF hsz hkc
  refine resume ?_
  go_wp2_with fail
  go_loopw [21] (fun i wr => ∃ k : Nat, k ≤ n ∧ i = .int .i64 k ∧ Hid (KSt w wr (adsOf w.heap.size w4.heap.size W6.heap.size) n l vs (knotsP (toL l) n k))) (fun i _ => n - (intOf i).toNat)
  case atStart => exact ⟨0, Nat.zero_le _, rfl, Lib.hid ⟨_, _, _, HKC.out⟩⟩
  case round =>
    obtain ⟨k, hk, rfl, HS⟩ := hrel
    have HE := Lib.hid (arr_iff HOK.out)
    have HLT := Lib.hid (arr_lt HOK.out)
    have HKI := Lib.hid (knots_inv HE.out HLT.out k hk)
    clear q1 q2 q3 q4 q5 q6 q7 q8 q9 v0 v1 d0 d2 g2 m0 m2
    obtain ⟨vo', va', rows', hkc⟩ := HS.out
    have hcc := hkc.cells
    simp only [adsOf] at hcc
    obtain ⟨q1, q2, q3, q4, q5, q6, q7, q8, q9⟩ := hcc
    have hb3 : ∀ cs, Below wr.heap.size wr (wr.alloc (.cells cs 32)) := fun cs => (Below.refl _ _).alloc (Nat.le_refl _) _
    have HBX := Lib.hid hb3
    clear hb3
    by_cases hlt : k < n
    · by_cases hkk : k ∈ (knotsP (toL l) n k).ks
      · have hlk := look_some true hkc.map (a := (k : Int)) (wf_nat (by omega)) (knownF_mem hkk)
        have HN : Hid (knotsP (toL l) n (k + 1) = knotsP (toL l) n k) := Lib.hid (by rw [knotsP, if_pos hkk])
        obtain ⟨fl, hfl⟩ : ∃ fl : Int, (if k ∈ (knotsP (toL l) n k).op then (((knotsP (toL l) n k).ks.idxOf k : Nat) : Int) else -1) = fl := ⟨_, rfl⟩
        rw [hfl] at hlk
        simp only [adsOf] at hlk
        clear hfl hkk
        generalize (knotsP (toL l) n k).ks.idxOf k = ix at hlk
        simp only [arrV, if_true] at hlk
        clear hkc
        go_wp2_with fail
        go_roundw
        case rel => exact ⟨k + 1, by omega, by go_num, Lib.hid (by rw [HN.out]; exact HS.out.below (HBX.out _))⟩
        case measure => simp [intOf]; omega
      · have hlk := look_none true hkc.map (a := (k : Int)) (wf_nat (by omega)) (knownF_not hkk)
        simp only [if_true, adsOf] at hlk
        have HC2 := Lib.hid (visit_any hn hll HOK.out n (wr.alloc (.cells #[.int .i64 0, .int .i64 0] 32)) (knotsP (toL l) n k) [] k (by omega) HKI.out.1 hlt hkk (by simp) (HS.out.below (HBX.out _)))
        have HN : Hid (knotsP (toL l) n (k + 1) = (visitP (toL l) n n (knotsP (toL l) n k) k).1) := Lib.hid (by rw [knotsP, if_neg hkk])
        simp only [adsOf] at HC2
        clear hkc hkk
        generalize visitP (toL l) n n (knotsP (toL l) n k) k = z at HN HC2
        obtain ⟨t', r⟩ := z
        dsimp only at HN HC2
        have q4' := ((HBX.out #[.int .i64 0, .int .i64 0]).cell (p := ⟨W6.heap.size + 1 + 1 + 1, 0, none⟩) (World.block_lt_of_cell? _ _ q4)).trans q4
        go_wp2_with fail
        refine HC2.out.mono ?_
        rintro e w7 ⟨rfl, hst7⟩
        have HS7 := Lib.hid hst7
        clear hst7
        go_wp2_with fail
        go_roundw
        case rel => exact ⟨k + 1, by omega, by go_num, Lib.hid (by rw [HN.out]; exact HS7.out)⟩
        case measure => simp [intOf]; omega
    · have hkn : k = n := by omega
      subst hkn
      obtain ⟨Aa, ca, hva, hle, hcap, hnil, _⟩ := ownsRow_form hkc.arow (by omega)
      subst hva
      have HKC' := Lib.hid hkc
      have z5 := hkc.cellA.lt
      have z6 := hkc.fix.fp.lt
      have f6 := hkc.fix.fp.free 0
      simp only [adsOf] at z5 z6 f6
      clear hkc hle hcap hnil q1 q2 q3 q4
      go_wp2_with fail
      go_region
      go_wp2_with fail
      have hA2 := (HKC'.out.cellA.put 0 (.slice Aa (knotsP (toL l) k k).all.length ca)).far (p := ⟨w.heap.size + 1 + 1, 0, none⟩) (by show w.heap.size + 1 ≠ w.heap.size + 1 + 1; omega) (.slice (some ⟨w4.heap.size + 1, 0, none⟩) k k)
      have hP2 := (HKC'.out.fix.fp.far (p := ⟨w.heap.size + 1, 0, none⟩) (by show w.heap.size + 1 + 1 ≠ w.heap.size + 1; omega) (.slice Aa (knotsP (toL l) k k).all.length ca)).put 0 (.slice (some ⟨w4.heap.size + 1, 0, none⟩) k k)
      have tt := ((Turn.set wr ⟨w.heap.size + 1, 0, none⟩ (.slice Aa (knotsP (toL l) k k).all.length ca)).trans (Turn.set (wr.setCell ⟨w.heap.size + 1, 0, none⟩ (.slice Aa (knotsP (toL l) k k).all.length ca)) ⟨w.heap.size + 1 + 1, 0, none⟩ (.slice (some ⟨w4.heap.size + 1, 0, none⟩) k k))).trans (Turn.below ((Below.refl _ ((wr.setCell ⟨w.heap.size + 1, 0, none⟩ (.slice Aa (knotsP (toL l) k k).all.length ca)).setCell ⟨w.heap.size + 1 + 1, 0, none⟩ (.slice (some ⟨w4.heap.size + 1, 0, none⟩) k k))).drew))
      have e5 : (((wr.setCell ⟨w.heap.size + 1, 0, none⟩ (.slice Aa (knotsP (toL l) k k).all.length ca)).setCell ⟨w.heap.size + 1 + 1, 0, none⟩ (.slice (some ⟨w4.heap.size + 1, 0, none⟩) k k)).drew).cell? ⟨w.heap.size + 1, 0, none⟩ = some (.slice Aa (knotsP (toL l) k k).all.length ca) := hA2.cells 0
      have e6 : (((wr.setCell ⟨w.heap.size + 1, 0, none⟩ (.slice Aa (knotsP (toL l) k k).all.length ca)).setCell ⟨w.heap.size + 1 + 1, 0, none⟩ (.slice (some ⟨w4.heap.size + 1, 0, none⟩) k k)).drew).cell? ⟨w.heap.size + 1 + 1, 0, none⟩ = some (.slice (some ⟨w4.heap.size + 1, 0, none⟩) k k) := hP2.cells 0
      have js := JS.out
      have hwq := JB.out.size
      have hbig : ∀ j, W6.heap.size + 1 + 1 + 1 + 1 ≤ j → ¬ ((j = w.heap.size + 1 ∨ j = w.heap.size + 1 + 1) ∨ False) := fun j hj e => by rcases e with (e | e) | e <;> first | omega | exact e
      have hH : w.heap.size ≤ W6.heap.size + 1 + 1 + 1 + 1 := by omega
      have hT4 := HT.out.blk.lt
      refine bodyPost_ret (v := .tuple #[.slice Aa (knotsP (toL l) k k).all.length ca, .slice (some ⟨w4.heap.size + 1, 0, none⟩) k k]) (by simp [results, Try.results20, go_sem, e5, e6]) rfl ?_
      refine ⟨_, w4.heap.size + 1, rows', rfl, by omega, ?_, ⟨?_, fun i hi => ?_⟩, ⟨?_, ?_, ?_, ?_, fun j hj => ?_⟩⟩
      · exact tt.iblk HKC'.out.place (by show ¬ ((w4.heap.size + 1 = w.heap.size + 1 ∨ w4.heap.size + 1 = w.heap.size + 1 + 1) ∨ False); intro e; rcases e with (e | e) | e <;> first | omega | exact e)
      · exact ownsRow_more (tt.row HKC'.out.arow (fun j hj => hbig j (own_base HKC'.out.arow j hj))) hH
      · exact (tt.own (HKC'.out.inner i hi) (fun j hj => hbig j ((HKC'.out.inner i hi).blockLt j hj).1)).more hH
      · exact tt.os.trans HKC'.out.os
      · exact tt.tape.trans HKC'.out.tape
      · exact tt.output.trans HKC'.out.output
      · have h1 : W6.heap.size + 1 + 1 + 1 + 1 ≤ wr.heap.size := HKC'.out.size
        have := tt.size
        omega
      · have h1 : W6.heap.size + 1 + 1 + 1 + 1 ≤ wr.heap.size := HKC'.out.size
        exact (tt.block j (by omega) (by show ¬ ((j = w.heap.size + 1 ∨ j = w.heap.size + 1 + 1) ∨ False); intro e; rcases e with (e | e) | e <;> first | omega | exact e)).trans (HKC'.out.low j hj)
end Go.Proofs.Ytohoihicmmidmaa
