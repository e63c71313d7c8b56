/-
  The walk of the statement ReadInts: for every number and text it returns true.
-/
import Derived.Test.YtbffebcjimhapaaDoorMg23
import Derived.Test.YtbffebcjimhapaaDoorMfRdInts
import Derived.Test.YtbffebcjimhapaaDoorMfNumWrite
import Derived.Lib.ItoaNum
namespace Go.Proofs.YtbffebcjimhapaaDoor
set_option linter.unusedVariables false
set_option linter.unusedSimpArgs false
open Go.ChangeShapes Go.WideShapes Go.ChangeAt Go.RowKit
open Go.Lib (itoa)

theorem canon_plain {l : Bs} (h : canonB l = true) : ∀ c ∈ l, isPlain c = true := by
  unfold canonB at h
  simp only [Bool.and_eq_true, List.all_eq_true] at h
  intro c hc
  have h1 := h.1.1 c hc
  simp only [Bool.and_eq_true, decide_eq_true_eq] at h1
  have key : ∀ d : UInt8, d.toNat < 48 ∨ 57 < d.toNat → c ≠ d := fun d hd e => by subst e; omega
  unfold isPlain isBlank
  have h2 := key 32 (by decide)
  have h3 := key 9 (by decide)
  have h4 := key 13 (by decide)
  have h5 := key 10 (by decide)
  have h6 := key 35 (by decide)
  simp [h2, h3, h4, h5, h6]
theorem canon_pos {l : Bs} (h : canonB l = true) : l ≠ [] := by
  rintro rfl
  exact absurd h (by decide)
theorem plain_may {l : Bs} (hne : l ≠ []) (h : ∀ c ∈ l, isPlain c = true) : mayW l = true := by
  unfold mayW spB
  rw [Bool.and_eq_true, Bool.not_eq_true', Bool.not_eq_true', List.any_eq_false]
  refine ⟨by cases l; exact absurd rfl hne; rfl, fun c hc => by rw [h c hc]; decide⟩
/-- A number's text may be a word. -/
theorem numP_may {l : Bs} {n : Int} (h : numP l = some n) : mayW l = true := by
  unfold numP at h
  split at h
  · rename_i hc
    rw [Bool.and_eq_true] at hc
    exact plain_may (canon_pos hc.1) (canon_plain hc.1)
  · cases l with
    | nil => cases h
    | cons c r =>
      dsimp only at h
      split at h
      · rename_i hc
        simp only [Bool.and_eq_true, beq_iff_eq] at hc
        obtain ⟨⟨⟨rfl, hc2⟩, _⟩, _⟩ := hc
        refine plain_may (List.cons_ne_nil _ _) (fun c hc => ?_)
        rcases List.mem_cons.1 hc with rfl | hc
        · decide
        · exact canon_plain hc2 c hc
      · cases h
/-- What lies where of the program that is read. -/
theorem chapN_at {r : PrR} {n : Int} (h : r.data = chapN n) : ∃ f b0 b1 i, r.funs = [f] ∧ f.blocks = [b0, b1] ∧ b1.ins = [i] ∧ i.n = n := by
  have hf : r.funs.map FuR.data = (chapN n).funs := congrArg PProg.funs h
  match hfs : r.funs, hf with
  | [], hf => cases hf
  | _ :: _ :: _, hf => injection hf with _ h2; cases h2
  | [f], hf =>
    have h1 : f.data = ⟨1, [⟨[⟨1, 0, 0, 0, 5, [], []⟩], ⟨1, 0, 1, 0⟩⟩, ⟨[⟨1, 0, 0, 0, n, [], []⟩], ⟨3, 1, 0, 0⟩⟩]⟩ := by injection hf
    have hb : f.blocks.map BlR.data = [⟨[⟨1, 0, 0, 0, 5, [], []⟩], ⟨1, 0, 1, 0⟩⟩, ⟨[⟨1, 0, 0, 0, n, [], []⟩], ⟨3, 1, 0, 0⟩⟩] := congrArg PFun.blocks h1
    match hbs : f.blocks, hb with
    | [], hb => cases hb
    | [_], hb => injection hb with _ h2; cases h2
    | _ :: _ :: _ :: _, hb => injection hb with _ h2; injection h2 with _ h3; cases h3
    | [b0, b1], hb =>
      have h2 : b1.data = ⟨[⟨1, 0, 0, 0, n, [], []⟩], ⟨3, 1, 0, 0⟩⟩ := by injection hb with _ h2; injection h2
      have hi : b1.ins.map InR.data = [⟨1, 0, 0, 0, n, [], []⟩] := congrArg PBlk.ins h2
      match his : b1.ins, hi with
      | [], hi => cases hi
      | _ :: _ :: _, hi => injection hi with _ h2; cases h2
      | [i], hi =>
        have h3 : i.data = ⟨1, 0, 0, 0, n, [], []⟩ := by injection hi
        exact ⟨f, b0, b1, i, rfl, hbs, his, congrArg PIns.n h3⟩
theorem chapN_cells {w : World} {r : PrR} {n : Int} (hp : ProgIn w r) (h : r.data = chapN n) : ∃ b off b2 o2 bc b3 o3 ic, r.funs.length = 1 ∧ r.fa = some ⟨b, off, none⟩ ∧ w.cell? ⟨b, off + 1, none⟩ = some (.slice (some ⟨b2, o2, none⟩) 2 bc) ∧ w.cell? ⟨b2, o2 + 5, none⟩ = some (.slice (some ⟨b3, o3, none⟩) 1 ic) ∧ w.cell? ⟨b3, o3 + 4, none⟩ = some (.int .i64 n) := by
  obtain ⟨f, b0, b1, i, e1, e2, e3, e4⟩ := chapN_at h
  obtain ⟨b, off, f', hfa, _, ⟨c0, c1⟩, hf, HE⟩ := hp.funs.elem (i := 0) (by rw [e1]; exact Nat.succ_pos _)
  have e5 : f' = f := by
    have := HE.out
    rw [e1] at this
    exact this.symm
  subst e5
  obtain ⟨b2, o2, b', hba, _, ⟨d0, _, _, _, _⟩, hb, HE2⟩ := hf.blocks.elem (i := 1) (by rw [e2]; exact Nat.le_refl 2)
  have e6 : b' = b1 := by
    have := HE2.out
    rw [e2] at this
    exact this.symm
  subst e6
  obtain ⟨b3, o3, i', hia, _, ⟨_, _, _, _, g4, _, _⟩, hi, HE3⟩ := hb.ins.elem (i := 0) (by rw [e3]; exact Nat.succ_pos _)
  have e7 : i' = i := by
    have := HE3.out
    rw [e3] at this
    exact this.symm
  subst e7
  refine ⟨b, off, b2, o2, f'.bc, b3, o3, b'.ic, by rw [e1]; rfl, hfa, ?_, ?_, ?_⟩
  · rw [hba, e2] at c1
    exact c1
  · rw [hia, e3] at d0
    exact d0
  · rw [e4] at g4
    exact g4
theorem itoa_short {n : Int} (h : In64n n) : (itoa n).length ≤ 20 := by
  rcases numOf_form (l := itoa n) ⟨h, rfl⟩ with ⟨h1, _, h2⟩ | ⟨r, h1, h2, _, _, h3⟩
  · have := canon_len h1 (by omega); omega
  · rw [h1]; have := canon_len h2 h3; simp; omega
set_option maxRecDepth 100000 in
set_option maxHeartbeats 3200000 in
theorem walk_ReadInts (n : Int) (s : ByteArray) (w : World) (w0 : (Lit.int .i64 n).wf = true) (w1 : s.size ≤ maxLen) (htab : TabW w) (htab4 : Tab w) :
    Calls Tryd.prog 6 #[.int .i64 n, .string s] w fun e w' => e = .returned (.bool true) ∧ Below w.heap.size w w' := by
  have HA := Lib.hid (alive7_any w htab)
  have HT := Lib.hid htab
  have HT4 := Lib.hid htab4
  have hn := in64n_of w0
  have hmx : s.size ≤ 9223372036854775807 := w1
  clear w0 w1 htab htab4
  by_cases hs : 30 < s.size
  · have q1 : (30 : Int) < s.size := by omega
    go_enter Tryd.func6, Tryd.ntmps6
    go_wp2_with (go_at_call 10; refine HA.out.mono ?_; rintro e w1 ⟨rfl, hb⟩; have HB := Lib.hid hb; clear hb)
    go_ret
    exact ⟨rfl, HB.out⟩
  have q1 : ¬ (30 : Int) < s.size := by omega
  have HW := Lib.hid (fun W (hb : Below w.heap.size w W) => write_is n hn W (HT4.out.beneath hb))
  have hnp : numP (itoa n) = some n := numP_of ⟨hn, rfl⟩
  have hlen := itoa_short hn
  obtain ⟨X, hX⟩ : ∃ X : ByteArray, (⟨(itoa n).toArray⟩ : ByteArray) = X := ⟨_, rfl⟩
  rw [hX] at HW
  have hXl : toL X = itoa n := by rw [← hX]; exact toL_mk _
  have hXs : X.size ≤ 20 := by rw [← toL_size, hXl]; exact hlen
  have hz : readA (toL (textS ++ ((intS ++ X) ++ retS))) = (chapN n, 0) := readA_int (by rw [hXl]; exact numP_may hnp) (by omega) (by rw [hXl]; exact hnp)
  have hsz1 : (intS ++ X).size ≤ 32 := by rw [ByteArray.size_append]; have : intS.size = 12 := rfl; omega
  have hsz2 : ((intS ++ X) ++ retS).size ≤ 42 := by rw [ByteArray.size_append]; have : retS.size = 10 := rfl; omega
  have hsz3 : (textS ++ ((intS ++ X) ++ retS)).size ≤ 20000 := by rw [ByteArray.size_append]; have : textS.size = 62 := rfl; omega
  have HR := Lib.hid (fun W (hb : Below w.heap.size w W) => hz ▸ pread_any (textS ++ ((intS ++ X) ++ retS)) hsz3 W (HT.out.on hb))
  have HTX := Lib.hid (fun W => text7_any ((intS ++ X) ++ retS) (by omega) W)
  have HL := Lib.hid (fun W => plines_any s (by omega) W)
  obtain ⟨m0, hm0⟩ : ∃ m0, linesP (toL s) = m0 := ⟨_, rfl⟩
  have HM0 := Lib.hid hm0
  rw [hm0] at HL
  obtain ⟨en, hen⟩ : ∃ en, errN (numP (toL s)) = en := ⟨_, rfl⟩
  have HEN := Lib.hid hen
  have HNR := Lib.hid (fun W => read_is s ((numP (toL s)).getD 0) en (hen ▸ numP_told (toL s)) W)
  have hsz4 : s.size ≤ 30 := by omega
  clear hX hXl hz hnp hlen hsz3 hm0 hen hn hs
  go_enter Tryd.func6, Tryd.ntmps6
  go_wp2_with (first
    | (go_at_call 10; refine HA.out.mono ?_; rintro e w1 ⟨rfl, hb⟩; have HB := Lib.hid hb; clear hb)
    | (go_at_call 14; refine (HW.out _ HB.out).mono ?_; rintro e w2 ⟨rfl, hb⟩; have HB2 := Lib.hid (HB.out.trans (hb.mono HB.out.size)); clear hb)
    | (go_at_call 9; refine (HTX.out _).mono ?_; rintro e w3 ⟨rfl, h3⟩; subst w3)
    | (go_at_call 7; refine (HR.out _ HB2.out).mono ?_; rintro e w4 ⟨r, rfl, hown, hdat, hb⟩; have HB4' := Lib.hid (HB2.out.trans (hb.mono HB2.out.size)); obtain ⟨ta, tc, types, fa, fc, funs⟩ := r; have hown5 := hown.keepOn (w' := w4.alloc (.cells #[.slice ta types.length tc, .slice fa funs.length fc] 25)) ((Below.refl _ _).alloc (Nat.le_refl _) _); obtain ⟨b, off, b2, o2, bc, b3, o3, ic, e1, e2, e3, e4, e5⟩ := chapN_cells hown5.prog.1 hdat; have e2 : fa = some ⟨b, off, none⟩ := e2; have e1 : funs.length = 1 := e1; subst e2; unfold PrR.val; dsimp only at *; rw [e1] at e3 e4 e5 ⊢; have HPB := Lib.hid (Blk.new w4 25 #[.slice ta types.length tc, .slice (some ⟨b, off, none⟩) 1 fc]); have HB4 := Lib.hid (HB4'.out.alloc HB4'.out.size (.cells #[.slice ta types.length tc, .slice (some ⟨b, off, none⟩) 1 fc] 25)); clear hown hdat hb hown5 HB4'; have f0 := HPB.out.cells 0; have f1 := HPB.out.cells 1)
    | (go_at_call 11; refine (HL.out _).mono ?_; refine pause ?_))
  clear HA HT4 HW HTX HR HL e3 e4 e5 f0 f1 HPB
  cases m0 with
  | none =>
    refine resume ?_
    rintro e w5 ⟨rfl, hb⟩
    have HB5 := Lib.hid (HB4.out.trans (hb.mono HB4.out.size))
    clear hb
    go_wp2_with (go_at_call 15; refine (HNR.out _).mono ?_; rintro e w6 ⟨rfl, hb⟩; have HB6 := Lib.hid (HB5.out.trans (hb.mono HB5.out.size)); clear hb)
    go_ret
    exact ⟨rfl, HB6.out⟩
  | some m =>
    refine resume ?_
    rintro e w5 ⟨v5, rows, rfl, hown, hdat, hb⟩
    have HB5 := Lib.hid (HB4.out.trans (hb.mono HB4.out.size))
    obtain ⟨A5, c5, rfl, hat⟩ := hown.full
    have HD := Lib.hid hdat
    have HAT := Lib.hid hat
    have hrc := hat.hdr.cle
    clear hb hown hdat hat
    by_cases h1 : rows.length = 1
    · obtain ⟨b5, off5, r, hA, hb5, g0', hr, HE⟩ := HAT.out.elem (i := 0) (by omega)
      rw [Nat.add_zero] at g0'
      have hA : A5 = some ⟨b5, off5, none⟩ := hA
      subst hA
      have hxc := hr.hdr.cle
      have hrows : rows = [r] := by
        have h2 := HE.out
        match rows, h1 with
        | [r'], _ =>
          have h2 : r' = r := h2
          rw [h2]
      subst hrows
      have HST := Lib.hid hr.strs
      clear h1 HE hr HAT
      obtain ⟨ra, rc, xs⟩ := r
      dsimp only [List.length_cons, List.length_nil] at *
      by_cases h2 : xs.length = 1
      · obtain ⟨b6, off6, x, hra, hb6, g1', HE2⟩ := HST.out.elem (i := 0) (by omega)
        rw [Nat.add_zero] at g1'
        have hra : ra = some ⟨b6, off6, none⟩ := hra
        subst hra
        have hxs : xs = [x] := by
          have h3 := HE2.out
          match xs, h2 with
          | [x'], _ =>
            have h3 : x' = x := h3
            rw [h3]
        subst hxs
        clear h2 HE2 HST
        dsimp only [List.length_cons, List.length_nil] at *
        by_cases hxs : x = s
        · subst hxs
          have hm : m = [[toL x]] := by rw [← HD.out]; rfl
          have hmay : mayW (toL x) = true := (lines_full (HM0.out.trans (by rw [hm])) [toL x] (List.mem_singleton.2 rfl)).2 (toL x) (List.mem_singleton.2 rfl)
          cases hnp : numP (toL x) with
          | some k =>
            have h4 := HEN.out
            rw [hnp] at h4
            have h4 : (0 : Int) = en := h4
            subst h4
            have q3 : (x.toList != x.toList) = false := by simp
            have q4 : (x.toList == x.toList) = true := by simp
            clear hnp
            go_wp2_with (go_at_call 15; refine (HNR.out _).mono ?_; rintro e w6 ⟨rfl, hb⟩; have HB6 := Lib.hid (HB5.out.trans (hb.mono HB5.out.size)); have g0 := (hb.cell (p := ⟨b5, off5, none⟩) hb5).trans g0'; have g1 := (hb.cell (p := ⟨b6, off6, none⟩) hb6).trans g1'; clear hb)
            go_ret
            exact ⟨rfl, HB6.out⟩
          | none =>
            have h4 := HEN.out
            rw [hnp] at h4
            have h4 : (10 : Int) = en := h4
            subst h4
            have q3 : (x.toList != x.toList) = false := by simp
            have q4 : (x.toList == x.toList) = true := by simp
            have hodd := odd_int hmay (by omega) hnp
            have hsz5 : (intS ++ x).size ≤ 42 := by rw [ByteArray.size_append]; have : intS.size = 12 := rfl; omega
            have hsz6 : ((intS ++ x) ++ retS).size ≤ 52 := by rw [ByteArray.size_append]; have : retS.size = 10 := rfl; omega
            have hsz7 : (textS ++ ((intS ++ x) ++ retS)).size ≤ 20000 := by rw [ByteArray.size_append]; have : textS.size = 62 := rfl; omega
            have HTX2 := Lib.hid (fun W => text7_any ((intS ++ x) ++ retS) (by omega) W)
            have HOD := Lib.hid (fun W (hb : Below w.heap.size w W) => odd7_any (textS ++ ((intS ++ x) ++ retS)) hsz7 70 W (HT.out.on hb))
            rw [hodd] at HOD
            clear hnp hodd hmay hm hsz7
            go_wp2_with (first
              | (go_at_call 15; refine (HNR.out _).mono ?_; rintro e w6 ⟨rfl, hb⟩; have HB6 := Lib.hid (HB5.out.trans (hb.mono HB5.out.size)); have g0 := (hb.cell (p := ⟨b5, off5, none⟩) hb5).trans g0'; have g1 := (hb.cell (p := ⟨b6, off6, none⟩) hb6).trans g1'; clear hb)
              | (go_at_call 9; refine (HTX2.out _).mono ?_; rintro e w7 ⟨rfl, h7⟩; subst w7)
              | (go_at_call 8; refine (HOD.out _ HB6.out).mono ?_; rintro e w8 ⟨rfl, hb⟩; have HB8 := Lib.hid (HB6.out.trans (hb.mono HB6.out.size)); clear hb))
            go_ret
            exact ⟨rfl, HB8.out⟩
        · have hne : x.toList ≠ s.toList := by
            rw [ByteArray.toList_eq, ByteArray.toList_eq]
            intro e
            apply hxs
            have : x.data = s.data := Array.toList_inj.1 e
            cases x; cases s; exact congrArg ByteArray.mk this
          have q3 : (x.toList != s.toList) = true := by simpa using hne
          have q4 : (x.toList == s.toList) = false := by simpa using hne
          clear hne hxs
          go_wp2_with (go_at_call 15; refine (HNR.out _).mono ?_; rintro e w6 ⟨rfl, hb⟩; have HB6 := Lib.hid (HB5.out.trans (hb.mono HB5.out.size)); have g0 := (hb.cell (p := ⟨b5, off5, none⟩) hb5).trans g0'; have g1 := (hb.cell (p := ⟨b6, off6, none⟩) hb6).trans g1'; clear hb)
          go_ret
          exact ⟨rfl, HB6.out⟩
      · have q3 : ((xs.length : Int) == 1) = false := by simp; omega
        have q4 : ((xs.length : Int) != 1) = true := by simp; omega
        clear h2
        go_wp2_with (go_at_call 15; refine (HNR.out _).mono ?_; rintro e w6 ⟨rfl, hb⟩; have HB6 := Lib.hid (HB5.out.trans (hb.mono HB5.out.size)); have g0 := (hb.cell (p := ⟨b5, off5, none⟩) hb5).trans g0'; clear hb)
        go_ret
        exact ⟨rfl, HB6.out⟩
    · have q3 : ((rows.length : Int) == 1) = false := by simp; omega
      have q4 : ((rows.length : Int) != 1) = true := by simp; omega
      clear h1
      go_wp2_with (go_at_call 15; refine (HNR.out _).mono ?_; rintro e w6 ⟨rfl, hb⟩; have HB6 := Lib.hid (HB5.out.trans (hb.mono HB5.out.size)); clear hb)
      go_ret
      exact ⟨rfl, HB6.out⟩
end Go.Proofs.YtbffebcjimhapaaDoor
