/-
  The reference's reader: a phi. And what stands on it: RfHas0, RfEnd, RfHas1.
-/
import Derived.Test.YtbffebcjimhapaaGreatDoorMg17
import Derived.Test.YtbffebcjimhapaaGreatDoorMg25
namespace Go.Proofs.YtbffebcjimhapaaGreatDoor
set_option linter.unusedVariables false
set_option linter.unusedSimpArgs false
open Go.ChangeShapes Go.WideShapes Go.ChangeAt Go.RowKit
set_option maxRecDepth 100000 in
theorem wpList_app1L {w : World} {ops : Array Oper} {rest : List Oper} {o : Oper} {a : Act} {Q : Exit → Act → World → Prop} (hgd : o.guard = none) (s x : Operand)
    (ho : o.op = .call { callee := .builtin .append, args := #[s, x], argTypes := #[72, 72] })
    (base : Nat) (v : Value) (xs : List Int) (hs : a.eval s = v) (y : Int) (hown : OwnInts w base v xs) (B : Nat) (hx : a.eval x = .slice (some ⟨B, 0, none⟩) 1 1) (hB : Blk w B 3 #[.int .i64 y])
    (hlen : xs.length ≤ 1000000) (hbase : base ≤ w.heap.size)
    (h : ∀ v' w', OwnInts w' base v' (xs ++ [y]) → w.grownBy w' v.ownBlock → (∀ k, v'.ownBlock = some k → v.ownBlock = some k ∨ w.heap.size ≤ k) → wpList Tryz.prog ops Q rest (a.put o.dst v') w') : wpList Tryz.prog ops Q (o :: rest) a w := by
 obtain ⟨i0, hi, hz0, hz1, hz2⟩ := info_parts intInfo
 refine wpList_append_lies (P := Tryz.prog) w hgd s x 72 ho base 3 i0 _ 1 8 Tryz.underlying72 hi hz0 hz1 hz2 rfl (by decide) v xs.length _ hs hown ⟨B, 0, none⟩ 1 1 [.int .i64 y] hx rfl (World.news_of_block hB) ?_ (by omega) ?_ ?_ hbase _ rfl ?_
 · intro u hu
   simp at hu
   subst hu
   rfl
 · unfold maxLen; omega
 · omega
 · intro g cap w2 h1 h2 h3 h4
   refine h _ w2 (by unfold OwnInts; rw [List.length_append, List.map_append]; exact h1) h2 (fun k hk => ?_)
   have e1 : g = k := Option.some.inj hk
   subst e1
   rcases h3 with h3 | h3
   · exact .inl h3
   · exact .inr (by omega)
theorem phiP_odd : ∀ (n : Nat) (W : List Bs), W.length ≤ n → W.length % 2 = 1 → phiP W = none
 | 0, W, h, h1 => by omega
 | n + 1, W, h, h1 => by
   match W, h, h1 with
   | [], _, h1 => simp at h1
   | [_], _, _ => rfl
   | b :: r :: t, h, h1 =>
     rw [phiP_two]
     have h2 : (b :: r :: t).length = t.length + 2 := rfl
     rw [phiP_odd n t (by omega) (by omega)]
     cases markP b 98 <;> cases markP r 114 <;> rfl
def RfIns (w : World) (o : Option PIns) (e : Ending) (w' : World) : Prop :=
 Below w.heap.size w w' ∧ ∃ r : InR, e = .returned (.tuple #[r.val, .bool o.isSome]) ∧ ∀ p, o = some p → r.data = p ∧ r.Own w' w.heap.size
section
variable {W w : World} {g lo : Nat} {t : TypeId} {x0 x1 x2 x3 x4 x5 x6 : Value}
theorem up_seven (h : Below lo w W) (hg : lo ≤ g) (a0 a1 a2 a3 a4 a5 a6 : Value) :
    Below lo w (((((((W.setCell ⟨g, 0, none⟩ a0).setCell ⟨g, 1, none⟩ a1).setCell ⟨g, 2, none⟩ a2).setCell ⟨g, 3, none⟩ a3).setCell ⟨g, 4, none⟩ a4).setCell ⟨g, 5, none⟩ a5).setCell ⟨g, 6, none⟩ a6) :=
 ((((((h.setCell (p := ⟨g, 0, none⟩) hg a0).setCell (p := ⟨g, 1, none⟩) hg a1).setCell (p := ⟨g, 2, none⟩) hg a2).setCell (p := ⟨g, 3, none⟩) hg a3).setCell (p := ⟨g, 4, none⟩) hg a4).setCell (p := ⟨g, 5, none⟩) hg a5).setCell (p := ⟨g, 6, none⟩) hg a6
theorem put_seven (hb : Blk W g t #[x0, x1, x2, x3, x4, x5, x6]) (a0 a1 a2 a3 a4 a5 a6 : Value) :
    Blk (((((((W.setCell ⟨g, 0, none⟩ a0).setCell ⟨g, 1, none⟩ a1).setCell ⟨g, 2, none⟩ a2).setCell ⟨g, 3, none⟩ a3).setCell ⟨g, 4, none⟩ a4).setCell ⟨g, 5, none⟩ a5).setCell ⟨g, 6, none⟩ a6) g t #[a0, a1, a2, a3, a4, a5, a6] := by
 have b0 : Blk (W.setCell ⟨g, 0, none⟩ a0) g t #[a0, x1, x2, x3, x4, x5, x6] := hb.put 0 a0
 have b1 : Blk ((W.setCell ⟨g, 0, none⟩ a0).setCell ⟨g, 1, none⟩ a1) g t #[a0, a1, x2, x3, x4, x5, x6] := b0.put 1 a1
 have b2 : Blk (((W.setCell ⟨g, 0, none⟩ a0).setCell ⟨g, 1, none⟩ a1).setCell ⟨g, 2, none⟩ a2) g t #[a0, a1, a2, x3, x4, x5, x6] := b1.put 2 a2
 have b3 : Blk ((((W.setCell ⟨g, 0, none⟩ a0).setCell ⟨g, 1, none⟩ a1).setCell ⟨g, 2, none⟩ a2).setCell ⟨g, 3, none⟩ a3) g t #[a0, a1, a2, a3, x4, x5, x6] := b2.put 3 a3
 have b4 : Blk (((((W.setCell ⟨g, 0, none⟩ a0).setCell ⟨g, 1, none⟩ a1).setCell ⟨g, 2, none⟩ a2).setCell ⟨g, 3, none⟩ a3).setCell ⟨g, 4, none⟩ a4) g t #[a0, a1, a2, a3, a4, x5, x6] := b3.put 4 a4
 have b5 : Blk ((((((W.setCell ⟨g, 0, none⟩ a0).setCell ⟨g, 1, none⟩ a1).setCell ⟨g, 2, none⟩ a2).setCell ⟨g, 3, none⟩ a3).setCell ⟨g, 4, none⟩ a4).setCell ⟨g, 5, none⟩ a5) g t #[a0, a1, a2, a3, a4, a5, x6] := b4.put 5 a5
 exact b5.put 6 a6
end
set_option maxRecDepth 100000 in
set_option maxHeartbeats 3200000 in
theorem rphi_any {w : World} {x : LnR} (hx : x.At w) (ty : Int) (h64 : x.xs.length ≤ 20000) : Calls Tryz.prog 174 #[.agg #[.int .u8 22, .int .i64 ty, .int .i64 0, .int .i64 0, .int .i64 0, .slice none 0 0, .slice none 0 0], .slice x.a x.xs.length x.c] w (RfIns w ((phiP x.data).map fun q => ⟨22, ty, 0, 0, 0, q.2, q.1⟩)) := by
 have HS := Lib.hid hx.strs
 obtain ⟨A, ca, xs⟩ := x
 dsimp only at *
 have hlc := hx.hdr.cle
 have HMB := Lib.hid (fun (s : ByteArray) (W : World) => rmark_is s 98 W)
 have HMR := Lib.hid (fun (s : ByteArray) (W : World) => rmark_is s 114 W)
 rw [show ((98 : UInt8).toNat : Int) = 98 from rfl] at HMB
 rw [show ((114 : UInt8).toNat : Int) = 114 from rfl] at HMR
 have HD : Hid ((⟨A, ca, xs⟩ : LnR).data = xs.map toL) := Lib.hid rfl
 rw [HD.out]
 obtain ⟨K, hK⟩ : ∃ K, (phiP (xs.map toL)).map (fun q => (⟨22, ty, 0, 0, 0, q.2, q.1⟩ : PIns)) = K := ⟨_, rfl⟩
 rw [hK]
 have HK := Lib.hid hK
 clear hx hK
 dsimp only at hlc
 have HX0 := Lib.hid ((Blk.new w 74 #[.int .u8 22, .int .i64 ty, .int .i64 0, .int .i64 0, .int .i64 0, .slice none 0 0, .slice none 0 0]).alloc (.cells #[.int .u8 0, .int .i64 0, .int .i64 0, .int .i64 0, .int .i64 0, .slice none 0 0, .slice none 0 0] 74))
 have HR0 := Lib.hid (Blk.new2 w (.cells #[.int .u8 22, .int .i64 ty, .int .i64 0, .int .i64 0, .int .i64 0, .slice none 0 0, .slice none 0 0] 74) 74 #[.int .u8 0, .int .i64 0, .int .i64 0, .int .i64 0, .int .i64 0, .slice none 0 0, .slice none 0 0])
 have HB0 : Hid (Below w.heap.size w ((w.alloc (.cells #[.int .u8 22, .int .i64 ty, .int .i64 0, .int .i64 0, .int .i64 0, .slice none 0 0, .slice none 0 0] 74)).alloc (.cells #[.int .u8 0, .int .i64 0, .int .i64 0, .int .i64 0, .int .i64 0, .slice none 0 0, .slice none 0 0] 74))) := Lib.hid (((Below.refl _ _).alloc (Nat.le_refl _) _).alloc (by rw [World.size_alloc]; omega) _)
 by_cases hodd : xs.length % 2 = 1
 · have HI : Hid (K = none) := Lib.hid (by rw [← HK.out, phiP_odd _ _ (Nat.le_refl _) (by rw [List.length_map]; exact hodd)]; rfl)
   have q1 : Int.tmod (xs.length : Int) 2 = 1 := by rw [Int.tmod_eq_emod_of_nonneg (Int.natCast_nonneg _)]; omega
   have HE := Lib.hid (Blk.new2 w (.cells #[.int .u8 22, .int .i64 ty, .int .i64 0, .int .i64 0, .int .i64 0, .slice none 0 0, .slice none 0 0] 74) 74 #[.int .u8 22, .int .i64 ty, .int .i64 0, .int .i64 0, .int .i64 0, .slice none 0 0, .slice none 0 0])
   go_enter Tryz.func174, Tryz.ntmps174
   go_wp2_with fail
   obtain ⟨q0, p1, q2, q3, q4, q5, q6⟩ := HE.out.seven
   exact bodyPost_ret (v := .tuple #[InR.val ⟨22, ty, 0, 0, 0, none, 0, [], none, 0, []⟩, .bool false]) (by simp [results, Tryz.results174, go_sem, InR.val, q0, p1, q2, q3, q4, q5, q6]) rfl ⟨((Below.refl _ _).alloc (Nat.le_refl _) _).alloc (by rw [World.size_alloc]; omega) _, ⟨22, ty, 0, 0, 0, none, 0, [], none, 0, []⟩, by rw [HI.out]; rfl, by
    rw [HI.out]
    intro p hp
    cases hp⟩
 · have q1 : Int.tmod (xs.length : Int) 2 = 0 := by rw [Int.tmod_eq_emod_of_nonneg (Int.natCast_nonneg _)]; omega
   go_enter Tryz.func174, Tryz.ntmps174
   go_wp2_with fail
   clear q1
   go_loopw [6] (fun i wr => ∃ (k : Nat) (fs ms : List Int) (Af Aa : Option Addr) (cf cka : Nat), k ≤ xs.length ∧ i = .int .i64 k ∧ Hid (Blk wr w.heap.size 74 #[.int .u8 22, .int .i64 ty, .int .i64 0, .int .i64 0, .int .i64 0, .slice Aa ms.length cka, .slice Af fs.length cf]) ∧ Hid (Blk wr (w.heap.size + 1) 74 #[.int .u8 0, .int .i64 0, .int .i64 0, .int .i64 0, .int .i64 0, .slice none 0 0, .slice none 0 0]) ∧ Hid (Below w.heap.size w wr) ∧ Hid (OwnInts wr w.heap.size (.slice Af fs.length cf) fs) ∧ Hid (OwnInts wr w.heap.size (.slice Aa ms.length cka) ms) ∧ Hid (Apart (.slice Aa ms.length cka) (.slice Af fs.length cf)) ∧ Hid (PhiTo (xs.map toL) fs ms ((xs.map toL).drop k)) ∧ Hid (fs.length ≤ k ∧ ms.length ≤ k) ∧ Hid ((xs.length - k) % 2 = 0)) (fun i _ => xs.length - (intOf i).toNat)
   case atStart => exact ⟨0, [], [], none, none, 0, 0, Nat.zero_le _, rfl, HX0, HR0, HB0, Lib.hid (OwnInts.nil _ _), Lib.hid (OwnInts.nil _ _), Lib.hid (Apart.nil _), Lib.hid (PhiTo.start _), Lib.hid ⟨Nat.le_refl _, Nat.le_refl _⟩, Lib.hid (by omega)⟩
   case round =>
    obtain ⟨k, fs, ms, Af, Aa, cf, cka, hk, rfl, HX, HR, HB, HOF, HOA, HAP, HPH, HL, HEV⟩ := hrel
    by_cases hlt : k < xs.length
    · have hlt1 : k + 1 < xs.length := by have := HEV.out; omega
      obtain ⟨b, off, s1, hA, hb, hcell1, HE1⟩ := HS.out.elem hlt
      obtain ⟨b', off', s2, hA', _, hcell2, HE2⟩ := HS.out.elem hlt1
      rw [hA] at hA'
      cases hA'
      have hA : A = some ⟨b, off, none⟩ := hA
      subst hA
      have c1 : wr.cell? ⟨b, off + k, none⟩ = some (.string s1) := (HB.out.cell (p := ⟨b, off + k, none⟩) hb).trans hcell1
      have HC2 : Hid (w.cell? ⟨b, off + (k + 1), none⟩ = some (.string s2)) := Lib.hid hcell2
      have hd1 : (xs.map toL).drop k = toL s1 :: toL s2 :: (xs.map toL).drop (k + 2) := by
       rw [List.drop_eq_getElem_cons (by rw [List.length_map]; exact hlt), List.drop_eq_getElem_cons (i := k + 1) (by rw [List.length_map]; exact hlt1)]
       have h1 := HE1.out
       have h2 := HE2.out
       rw [List.getD_eq_getElem?_getD, List.getElem?_eq_getElem hlt] at h1
       rw [List.getD_eq_getElem?_getD, List.getElem?_eq_getElem hlt1] at h2
       rw [List.getElem_map, List.getElem_map]
       exact congr (congrArg _ (congrArg toL h1)) (congrArg (· :: _) (congrArg toL h2))
      have HP2 := Lib.hid (hd1 ▸ HPH.out)
      have q0 : (0 : Int) ≤ (k : Int) := Int.natCast_nonneg _
      have q1 : (k : Int) < (xs.length : Int) := by omega
      have q2 : (k : Int) + 1 < (xs.length : Int) := by omega
      have HM1 := Lib.hid (HMB.out s1)
      have HM2 := Lib.hid (HMR.out s2)
      have HLT := Lib.hid hlt1
      clear hcell1 hcell2 HE1 HE2 hd1 hlt1
      obtain ⟨o1, ho1⟩ : ∃ o1, markP (toL s1) 98 = o1 := ⟨_, rfl⟩
      obtain ⟨o2, ho2⟩ : ∃ o2, markP (toL s2) 114 = o2 := ⟨_, rfl⟩
      rw [ho1] at HM1
      rw [ho2] at HM2
      cases o1 with
      | none =>
        have HI : Hid (K = none) := Lib.hid (by rw [← HK.out, HP2.out.stop1 ho1]; rfl)
        dsimp only [Option.getD, errN] at HM1
        obtain ⟨n2, hn2⟩ : ∃ n2, o2.getD 0 = n2 := ⟨_, rfl⟩
        obtain ⟨e2, he2⟩ : ∃ e2, errN o2 = e2 := ⟨_, rfl⟩
        rw [hn2, he2] at HM2
        clear ho1 ho2 hn2 he2
        go_wp2_with (go_at_call 65; refine (HM1.out _).mono ?_; rintro e w1 ⟨rfl, hb1⟩; have HX1 := Lib.hid (HX.out.beneath hb1); have HR1 := Lib.hid (HR.out.beneath hb1); have HB1 := Lib.hid (HB.out.trans (hb1.mono HB.out.size)); have HOF1 := Lib.hid (HOF.out.keep hb1); have HOA1 := Lib.hid (HOA.out.keep hb1); have c2 : w1.cell? ⟨b, off + (k + 1), none⟩ = some (.string s2) := (HB1.out.cell (p := ⟨b, off + (k + 1), none⟩) hb).trans HC2.out; clear hb1; refine pause ?_)
        refine resume ?_
        clear HM1 c1
        go_wp2_with (first
         | (go_at_call 65; refine (HM2.out _).mono ?_; rintro e w2 ⟨rfl, hb2⟩; have HX2 := Lib.hid (HX1.out.beneath hb2); have HR2 := Lib.hid (HR1.out.beneath hb2); have HB2 := Lib.hid (HB1.out.trans (hb2.mono HB1.out.size)); have HOF2 := Lib.hid (HOF1.out.keep hb2); have HOA2 := Lib.hid (HOA1.out.keep hb2); obtain ⟨x0, x1, x2, x3, x4, x5, x6⟩ := HX2.out.seven; obtain ⟨r0, r1, r2, r3, r4, r5, r6⟩ := HR2.out.seven; have rz := HR2.out.free;  clear hb2; clear c2))
        have HE := Lib.hid (put_seven HR2.out (.int .u8 22) (.int .i64 ty) (.int .i64 0) (.int .i64 0) (.int .i64 0) (.slice Aa ms.length cka) (.slice Af fs.length cf))
        have HBE := Lib.hid (up_seven HB2.out (Nat.le_succ _) (.int .u8 22) (.int .i64 ty) (.int .i64 0) (.int .i64 0) (.int .i64 0) (.slice Aa ms.length cka) (.slice Af fs.length cf))
        obtain ⟨q0, q1, q2, q3, q4, q5, q6⟩ := HE.out.seven
        exact bodyPost_ret (v := .tuple #[InR.val ⟨22, ty, 0, 0, 0, Aa, cka, ms, Af, cf, fs⟩, .bool false]) (by simp [results, Tryz.results174, go_sem, InR.val, q0, q1, q2, q3, q4, q5, q6]) rfl ⟨HBE.out, ⟨22, ty, 0, 0, 0, Aa, cka, ms, Af, cf, fs⟩, by rw [HI.out]; rfl, by
         rw [HI.out]
         intro p hp
         cases hp⟩
      | some n =>
        cases o2 with
        | none =>
          have HI : Hid (K = none) := Lib.hid (by rw [← HK.out, HP2.out.stop2 ho2]; rfl)
          dsimp only [Option.getD, errN] at HM1 HM2
          clear ho1 ho2
          go_wp2_with (go_at_call 65; refine (HM1.out _).mono ?_; rintro e w1 ⟨rfl, hb1⟩; have HX1 := Lib.hid (HX.out.beneath hb1); have HR1 := Lib.hid (HR.out.beneath hb1); have HB1 := Lib.hid (HB.out.trans (hb1.mono HB.out.size)); have HOF1 := Lib.hid (HOF.out.keep hb1); have HOA1 := Lib.hid (HOA.out.keep hb1); have c2 : w1.cell? ⟨b, off + (k + 1), none⟩ = some (.string s2) := (HB1.out.cell (p := ⟨b, off + (k + 1), none⟩) hb).trans HC2.out; clear hb1; refine pause ?_)
          refine resume ?_
          clear HM1 c1
          go_wp2_with (first
           | (go_at_call 65; refine (HM2.out _).mono ?_; rintro e w2 ⟨rfl, hb2⟩; have HX2 := Lib.hid (HX1.out.beneath hb2); have HR2 := Lib.hid (HR1.out.beneath hb2); have HB2 := Lib.hid (HB1.out.trans (hb2.mono HB1.out.size)); have HOF2 := Lib.hid (HOF1.out.keep hb2); have HOA2 := Lib.hid (HOA1.out.keep hb2); obtain ⟨x0, x1, x2, x3, x4, x5, x6⟩ := HX2.out.seven; obtain ⟨r0, r1, r2, r3, r4, r5, r6⟩ := HR2.out.seven; have rz := HR2.out.free;  clear hb2; clear c2))
          have HE := Lib.hid (put_seven HR2.out (.int .u8 22) (.int .i64 ty) (.int .i64 0) (.int .i64 0) (.int .i64 0) (.slice Aa ms.length cka) (.slice Af fs.length cf))
          have HBE := Lib.hid (up_seven HB2.out (Nat.le_succ _) (.int .u8 22) (.int .i64 ty) (.int .i64 0) (.int .i64 0) (.int .i64 0) (.slice Aa ms.length cka) (.slice Af fs.length cf))
          obtain ⟨q0, q1, q2, q3, q4, q5, q6⟩ := HE.out.seven
          exact bodyPost_ret (v := .tuple #[InR.val ⟨22, ty, 0, 0, 0, Aa, cka, ms, Af, cf, fs⟩, .bool false]) (by simp [results, Tryz.results174, go_sem, InR.val, q0, q1, q2, q3, q4, q5, q6]) rfl ⟨HBE.out, ⟨22, ty, 0, 0, 0, Aa, cka, ms, Af, cf, fs⟩, by rw [HI.out]; rfl, by
           rw [HI.out]
           intro p hp
           cases hp⟩
        | some m =>
          have HN := Lib.hid (HP2.out.step ho1 ho2)
          dsimp only [Option.getD, errN] at HM1 HM2
          clear ho1 ho2
          go_wp2_with (go_at_call 65; refine (HM1.out _).mono ?_; rintro e w1 ⟨rfl, hb1⟩; have HX1 := Lib.hid (HX.out.beneath hb1); have HR1 := Lib.hid (HR.out.beneath hb1); have HB1 := Lib.hid (HB.out.trans (hb1.mono HB.out.size)); have HOF1 := Lib.hid (HOF.out.keep hb1); have HOA1 := Lib.hid (HOA.out.keep hb1); have c2 : w1.cell? ⟨b, off + (k + 1), none⟩ = some (.string s2) := (HB1.out.cell (p := ⟨b, off + (k + 1), none⟩) hb).trans HC2.out; clear hb1; refine pause ?_)
          refine resume ?_
          clear HM1 c1
          go_wp2_with (first
           | (go_at_call 65; refine (HM2.out _).mono ?_; rintro e w2 ⟨rfl, hb2⟩; have HX2 := Lib.hid (HX1.out.beneath hb2); have HR2 := Lib.hid (HR1.out.beneath hb2); have HB2 := Lib.hid (HB1.out.trans (hb2.mono HB1.out.size)); have HOF2 := Lib.hid (HOF1.out.keep hb2); have HOA2 := Lib.hid (HOA1.out.keep hb2); obtain ⟨x0, x1, x2, x3, x4, x5, x6⟩ := HX2.out.seven;  clear hb2; clear c2)
           | (at_builtin; refine wpList_app1L rfl (.tmp 47) (.tmp 49) rfl w.heap.size _ fs rfl n (HOF2.out.keep (w' := w2.alloc (.cells #[.int .i64 n] 3)) ((Below.refl _ _).alloc (Nat.le_refl _) _)) w2.heap.size (by rfl) (Blk.new w2 _ _) (by have := HL.out.1; omega) (by rw [World.size_alloc]; have := HB2.out.size; omega) ?_; intro v4 w4 hof4 hg4 hat4; refine pause ?_))
          obtain ⟨fs2, hfs2⟩ : ∃ fs2, fs ++ [n] = fs2 := ⟨_, rfl⟩
          rw [hfs2] at hof4
          have HFS := Lib.hid hfs2
          clear hfs2
          obtain ⟨A4, c4, rfl, _⟩ := hof4.form
          have HX4 := Lib.hid (Blk.grown (HX2.out.alloc _) hg4 (own_ne HOF2.out HX2.out (by decide)))
          have HR4 := Lib.hid (Blk.grown (HR2.out.alloc _) hg4 (own_ne HOF2.out HR2.out (by decide)))
          have HB4 := Lib.hid (Below.grown (HB2.out.alloc HB2.out.size (.cells #[.int .i64 n] 3)) hg4 (by rw [World.size_alloc]; have := HB2.out.size; omega) (own_base HOF2.out))
          have HOA3 := Lib.hid (HOA2.out.keep (w' := w2.alloc (.cells #[.int .i64 n] 3)) ((Below.refl _ _).alloc (Nat.le_refl _) _))
          have HOA4 := Lib.hid (HAP.out.kept HOA3.out hg4)
          have HAP4 := Lib.hid (HAP.out.grown HOA3.out hat4)
          have HOF4 := Lib.hid hof4
          have y5 : w4.cell? ⟨w.heap.size, 5, none⟩ = some (.slice Aa ms.length cka) := HX4.out.cells 5
          have y6 : w4.cell? ⟨w.heap.size, 6, none⟩ = some (.slice Af fs.length cf) := HX4.out.cells 6
          have yz := HX4.out.free
          clear hof4 hg4 hat4 x0 x1 x2 x3 x4 x5 x6
          refine resume ?_
          have HX5 := Lib.hid (HX4.out.put 6 (.slice A4 fs2.length c4))
          have HR5 := Lib.hid (HR4.out.far (p := ⟨w.heap.size, 6, none⟩) (Nat.succ_ne_self _) (.slice A4 fs2.length c4))
          have HB5 := Lib.hid (HB4.out.setCell (p := ⟨w.heap.size, 6, none⟩) (Nat.le_refl _) (.slice A4 fs2.length c4))
          have HOA5 := Lib.hid (OwnInts.spare HOA4.out (Spare.set HX4.out (j := 6) (.slice A4 fs2.length c4)) (by decide))
          have HOF5 := Lib.hid (OwnInts.spare HOF4.out (Spare.set HX4.out (j := 6) (.slice A4 fs2.length c4)) (by decide))
          have y5' : (w4.setCell ⟨w.heap.size, 6, none⟩ (.slice A4 fs2.length c4)).cell? ⟨w.heap.size, 5, none⟩ = some (.slice Aa ms.length cka) := HX5.out.cells 5
          have HOA6 := Lib.hid (HOA5.out.keep (w' := (w4.setCell ⟨w.heap.size, 6, none⟩ (.slice A4 fs2.length c4)).alloc (.cells #[.int .i64 m] 3)) ((Below.refl _ _).alloc (Nat.le_refl _) _))
          have HOF6 := Lib.hid (HOF5.out.keep (w' := (w4.setCell ⟨w.heap.size, 6, none⟩ (.slice A4 fs2.length c4)).alloc (.cells #[.int .i64 m] 3)) ((Below.refl _ _).alloc (Nat.le_refl _) _))
          have HNB : Hid (Blk ((w4.setCell ⟨w.heap.size, 6, none⟩ (.slice A4 fs2.length c4)).alloc (.cells #[.int .i64 m] 3)) w4.heap.size 3 #[.int .i64 m]) := Lib.hid (by
           have h := Blk.new (w4.setCell ⟨w.heap.size, 6, none⟩ (.slice A4 fs2.length c4)) 3 #[.int .i64 m]
           rw [size_set] at h
           exact h)
          go_wp2_with (at_builtin; refine wpList_app1L rfl (.tmp 53) (.tmp 55) rfl w.heap.size _ ms rfl m HOA6.out w4.heap.size (by rfl) HNB.out (by have := HL.out.2; omega) (by rw [World.size_alloc, size_set]; have := HB4.out.size; omega) ?_; intro v6 w6 hoa6 hg6 hat6; refine pause ?_)
          obtain ⟨ms2, hms2⟩ : ∃ ms2, ms ++ [m] = ms2 := ⟨_, rfl⟩
          rw [hms2] at hoa6
          have HMS := Lib.hid hms2
          clear hms2
          obtain ⟨A6, c6, rfl, _⟩ := hoa6.form
          have HX6 := Lib.hid (Blk.grown (HX5.out.alloc _) hg6 (own_ne HOA5.out HX5.out (by decide)))
          have HR6 := Lib.hid (Blk.grown (HR5.out.alloc _) hg6 (own_ne HOA5.out HR5.out (by decide)))
          have HB6 := Lib.hid (Below.grown (HB5.out.alloc HB5.out.size (.cells #[.int .i64 m] 3)) hg6 (by rw [World.size_alloc]; have := HB5.out.size; omega) (own_base HOA5.out))
          have HOF7 := Lib.hid (HAP4.out.symm.kept HOF6.out hg6)
          have HAP6 := Lib.hid (HAP4.out.symm.grown HOF6.out hat6).symm
          have HOA7 := Lib.hid hoa6
          have z5 : w6.cell? ⟨w.heap.size, 5, none⟩ = some (.slice Aa ms.length cka) := HX6.out.cells 5
          have zz := HX6.out.free
          clear hoa6 hg6 hat6 y5 y6 yz y5'
          refine resume ?_
          have HX8 := Lib.hid (HX6.out.put 5 (.slice A6 ms2.length c6))
          have HR8 := Lib.hid (HR6.out.far (p := ⟨w.heap.size, 5, none⟩) (Nat.succ_ne_self _) (.slice A6 ms2.length c6))
          have HB8 := Lib.hid (HB6.out.setCell (p := ⟨w.heap.size, 5, none⟩) (Nat.le_refl _) (.slice A6 ms2.length c6))
          have HOA8 := Lib.hid (OwnInts.spare HOA7.out (Spare.set HX6.out (j := 5) (.slice A6 ms2.length c6)) (by decide))
          have HOF8 := Lib.hid (OwnInts.spare HOF7.out (Spare.set HX6.out (j := 5) (.slice A6 ms2.length c6)) (by decide))
          go_wp2_with fail
          go_roundw
          case rel =>
           refine ⟨k + 2, fs2, ms2, A4, A6, c4, c6, by have := HLT.out; omega, by go_num, HX8, HR8, HB8, HOF8, HOA8, HAP6, ?_, ?_, ?_⟩
           · have h := HN.out
             rw [HFS.out, HMS.out] at h
             exact Lib.hid h
           · rw [← HFS.out, ← HMS.out, List.length_append, List.length_append]
             have := HL.out
             exact Lib.hid ⟨Nat.le_succ_of_le (Nat.succ_le_succ this.1), Nat.le_succ_of_le (Nat.succ_le_succ this.2)⟩
           · have h1 := HEV.out
             have h2 := HLT.out
             exact Lib.hid (by omega)
          case measure => simp [intOf]; have := HLT.out; omega
    · obtain rfl : k = xs.length := by omega
      have HI : Hid (K = some ⟨22, ty, 0, 0, 0, ms, fs⟩) := Lib.hid (by
       have h1 := HPH.out
       rw [← List.length_map (f := toL), List.drop_length] at h1
       rw [← HK.out, h1.done]
       rfl)
      obtain ⟨x0, x1, x2, x3, x4, x5, x6⟩ := HX.out.seven
      obtain ⟨r0, r1, r2, r3, r4, r5, r6⟩ := HR.out.seven
      have rz := HR.out.free
      go_wp2_with fail
      have HE := Lib.hid (put_seven HR.out (.int .u8 22) (.int .i64 ty) (.int .i64 0) (.int .i64 0) (.int .i64 0) (.slice Aa ms.length cka) (.slice Af fs.length cf))
      have HBE := Lib.hid (up_seven HB.out (Nat.le_succ _) (.int .u8 22) (.int .i64 ty) (.int .i64 0) (.int .i64 0) (.int .i64 0) (.slice Aa ms.length cka) (.slice Af fs.length cf))
      obtain ⟨q0, q1, q2, q3, q4, q5, q6⟩ := HE.out.seven
      exact bodyPost_ret (v := .tuple #[InR.val ⟨22, ty, 0, 0, 0, Aa, cka, ms, Af, cf, fs⟩, .bool true]) (by simp [results, Tryz.results174, go_sem, InR.val, q0, q1, q2, q3, q4, q5, q6]) rfl ⟨HBE.out, ⟨22, ty, 0, 0, 0, Aa, cka, ms, Af, cf, fs⟩, by rw [HI.out]; rfl, by
       rw [HI.out]
       intro p hp
       injection hp with hp; subst hp; exact ⟨rfl, by show 22 ≤ 255; omega, OwnInts.spare HOA.out (spare_seven HR.out (.int .u8 22) (.int .i64 ty) (.int .i64 0) (.int .i64 0) (.int .i64 0) (.slice Aa ms.length cka) (.slice Af fs.length cf)) (by decide), OwnInts.spare HOF.out (spare_seven HR.out (.int .u8 22) (.int .i64 ty) (.int .i64 0) (.int .i64 0) (.int .i64 0) (.slice Aa ms.length cka) (.slice Af fs.length cf)) (by decide)⟩⟩
theorem rhasn_any (op : Nat) (w : World) : Calls Tryz.prog 175 #[.int .u8 op] w fun e w' => e = .returned (.bool (hasT op 2)) ∧ Below w.heap.size w w' := by
 go_enter Tryz.func175, Tryz.ntmps175
 go_wp2
 all_goals go_ret
 all_goals refine ⟨ret_bool ?_, Below.refl _ _⟩
 all_goals show _ = (op == 1 || op == 3 || op == 14 || op == 18)
 all_goals (first | rfl | (rw [Bool.eq_iff_iff]; simp only [Bool.and_eq_true, Bool.or_eq_true, decide_eq_true_eq, beq_iff_eq, bne_iff_ne, Bool.not_eq_true', beq_eq_false_iff_ne, decide_eq_false_iff_not, Bool.false_eq_true, false_iff, true_iff, iff_false, iff_true, true_and, and_true, false_and, and_false, true_or, or_true, false_or, or_false, ne_eq]; first | done | omega | (intros; omega)) | (rw [Bool.eq_iff_iff]; simp [*]; done) | (rw [Bool.eq_iff_iff]; simp [*]; omega))
section
variable {w : World} {b off c : Nat} {xs : List ByteArray}
theorem LnR.At.take (h : LnR.At w ⟨some ⟨b, off, none⟩, c, xs⟩) (r : Nat) (hr : r ≤ xs.length) : LnR.At w ⟨some ⟨b, off, none⟩, c, xs.take r⟩ := by
 obtain ⟨hd, hs⟩ := h
 have hl : (xs.take r).length = r := by rw [List.length_take]; omega
 refine ⟨⟨?_, hd.cap, fun e => by cases e⟩, fun hn => ?_⟩
 · have h1 : xs.length ≤ c := hd.fit
   show (xs.take r).length ≤ c
   omega
 · have hn : 0 < (xs.take r).length := hn
   obtain ⟨b', off', e, h1, h2, hc⟩ := hs (show 0 < xs.length by omega)
   refine ⟨b', off', e, h1, h2, fun i hi j hj => ?_⟩
   have hi : i < (xs.take r).length := hi
   rw [hc i (show i < xs.length by omega) j hj]
   dsimp only
   rw [List.getD_eq_getElem?_getD, List.getD_eq_getElem?_getD, List.getElem?_take, if_pos (by omega)]
theorem LnR.At.drop (h : LnR.At w ⟨some ⟨b, off, none⟩, c, xs⟩) (r : Nat) (hr : r ≤ xs.length) : LnR.At w ⟨if c = r then some ⟨b, off, none⟩ else some ⟨b, off + r, none⟩, c - r, xs.drop r⟩ := by
 obtain ⟨hd, hs⟩ := h
 have hl : (xs.drop r).length = xs.length - r := List.length_drop
 have hf : xs.length ≤ c := hd.fit
 have hcp : c ≤ maxLen := hd.cap
 refine ⟨⟨?_, ?_, fun e => ?_⟩, fun hn => ?_⟩
 · show (xs.drop r).length ≤ c - r
   omega
 · show c - r ≤ maxLen
   omega
 · have e : (if c = r then (some ⟨b, off, none⟩ : Option Addr) else some ⟨b, off + r, none⟩) = none := e
   split at e <;> cases e
 · have hn : 0 < (xs.drop r).length := hn
   obtain ⟨b', off', e, h1, h2, hc⟩ := hs (show 0 < xs.length by omega)
   cases e
   refine ⟨b, off + r, if_neg (by omega), h1, h2, fun i hi j hj => ?_⟩
   have hi : i < (xs.drop r).length := hi
   have h3 := hc (r + i) (show r + i < xs.length by omega) j hj
   rw [show off + (r + i) * 1 + j = off + r + i * 1 + j by omega] at h3
   rw [h3]
   dsimp only
   rw [List.getD_eq_getElem?_getD, List.getD_eq_getElem?_getD, List.getElem?_drop]
end
def regN (op : Nat) : Nat := if hasT op 1 then 2 else if hasT op 0 then 1 else 0
theorem one_of_two (op : Nat) (h : hasT op 1 = true) : hasT op 0 = true := by
 have h : ((decide (4 ≤ op) && decide (op ≤ 10)) || op == 15 || op == 17) = true := h
 show ((decide (4 ≤ op) && decide (op ≤ 10)) || op == 13 || op == 14 || op == 15 || op == 16 || op == 17 || op == 19 || op == 21) = true
 simp only [Bool.or_eq_true, Bool.and_eq_true, decide_eq_true_eq, beq_iff_eq] at h ⊢
 omega
theorem regN_uses (op : Nat) (h : op ≠ 22) : (usesL (hasT op 0) (hasT op 1) (hasT op 3) 0 0 []).length = regN op := by
 unfold usesL regN
 have := one_of_two op
 cases h0 : hasT op 0 <;> cases h1 : hasT op 1 <;> cases h3 : hasT op 3 <;> simp_all
theorem regP_law (op : Nat) (W : List Bs) : regP op W = if W.length < regN op then none else (marksP 114 (W.take (regN op))).map fun l => (l.getD 0 0, l.getD 1 0, W.drop (regN op)) := by
 unfold regP regN
 by_cases h1 : hasT op 1 = true
 · rw [if_pos h1, if_pos h1]
   match W with
   | [] => rfl
   | [_] => rfl
   | x :: y :: t =>
     rw [if_neg (by show ¬ t.length + 1 + 1 < 2; omega)]
     show (match markP x 114, markP y 114 with | some a, some b => some (a, b, t) | _, _ => none) = (marksP 114 [x, y]).map _
     rw [marksP_cons, marksP_cons]
     cases markP x 114 <;> cases markP y 114 <;> rfl
 · rw [if_neg h1, if_neg h1]
   by_cases h0 : hasT op 0 = true
   · rw [if_pos h0, if_pos h0]
     match W with
     | [] => rfl
     | x :: t =>
       rw [if_neg (by show ¬ t.length + 1 < 1; omega)]
       show (markP x 114).map (fun a => (a, (0 : Int), t)) = (marksP 114 [x]).map _
       rw [marksP_cons]
       cases markP x 114 <;> rfl
   · rw [if_neg h0, if_neg h0, if_neg (Nat.not_lt_zero _)]
     rfl
theorem hasP_plain {op : Nat} (h : op ≠ 22) (ty : Int) (W : List Bs) : hasP op ty W = (match regP op W with
    | some (a, b, w1) => (match numW op w1 with
      | some (n, w2) => (argsW op w2).map fun l => ⟨op, ty, a, b, n, l, []⟩
      | none => none)
    | none => none) := if_neg h
theorem hasP_few {op : Nat} (h : op ≠ 22) (ty : Int) {W : List Bs} (hl : W.length < regN op) : hasP op ty W = none := by
 rw [hasP_plain h, regP_law, if_pos hl]
theorem hasP_bad {op : Nat} (h : op ≠ 22) (ty : Int) {W : List Bs} (hl : ¬ W.length < regN op) (hm : marksP 114 (W.take (regN op)) = none) : hasP op ty W = none := by
 rw [hasP_plain h, regP_law, if_neg hl, hm]
 rfl
theorem hasP_regs {op : Nat} (h : op ≠ 22) (ty : Int) {W : List Bs} (hl : ¬ W.length < regN op) {l : List Int} (hm : marksP 114 (W.take (regN op)) = some l) : hasP op ty W = (match numW op (W.drop (regN op)) with
      | some (n, w2) => (argsW op w2).map fun m => ⟨op, ty, l.getD 0 0, l.getD 1 0, n, m, []⟩
      | none => none) := by
 rw [hasP_plain h, regP_law, if_neg hl, hm]
 rfl
theorem argsW_law (op : Nat) (W : List Bs) : argsW op W = if (marksP 114 W).isSome = true ∧ (W = [] ∨ hasT op 3 = true) then marksP 114 W else none := by
 unfold argsW
 by_cases h3 : hasT op 3 = true
 · rw [if_pos h3]
   cases hm : marksP 114 W with
   | none => rfl
   | some l => exact (if_pos ⟨rfl, .inr h3⟩).symm
 · rw [if_neg h3]
   by_cases hw : W = []
   · subst hw
     rw [if_pos rfl]
     exact (if_pos ⟨rfl, .inl rfl⟩).symm
   · rw [if_neg hw, if_neg (fun h => h.2.elim hw h3)]
def RfEnd (w : World) (o : Option PEnd) (e : Ending) (w' : World) : Prop :=
 Below w.heap.size w w' ∧ ∃ p : PEnd, e = .returned (.tuple #[p.val, .bool o.isSome]) ∧ ∀ q, o = some q → p = q ∧ q.kind ≤ 255
theorem endP_jump (k : Bs) (r : List Bs) (h : k = bJump) : endP (k :: r) = (match marksP 98 r with
    | some [n] => some ⟨1, 0, n, 0⟩
    | _ => none) := by
 unfold endP
 dsimp only
 rw [if_pos h]
 match r with
 | [] => rfl
 | [a] =>
   rw [marksP_cons]
   dsimp only
   cases markP a 98 with
   | none => rfl
   | some n => rfl
 | a :: b :: t =>
   rw [marksP_cons, marksP_cons]
   dsimp only
   cases markP a 98 with
   | none => rfl
   | some n =>
     cases markP b 98 with
     | none => rfl
     | some m => cases marksP 98 t <;> rfl
theorem endP_few (k : Bs) (h : ¬ k = bJump) : endP [k] = none := by
 unfold endP
 dsimp only
 rw [if_neg h]
 split <;> rfl
theorem endP_ret (k a : Bs) (t : List Bs) (h : ¬ k = bJump) (h2 : k = bReturn) : endP (k :: a :: t) = (match markP a 114, marksP 98 t with
    | some n, some [] => some ⟨3, n, 0, 0⟩
    | _, _ => none) := by
 unfold endP
 dsimp only
 rw [if_neg h, if_pos h2]
 match t with
 | [] =>
   show (markP a 114).map _ = (match markP a 114, (some [] : Option (List Int)) with
   | some n, some [] => some (⟨3, n, 0, 0⟩ : PEnd)
   | _, _ => none)
   cases markP a 114 <;> rfl
 | b :: t =>
   rw [marksP_cons]
   dsimp only
   cases markP a 114 with
   | none => rfl
   | some n =>
     cases markP b 98 with
     | none => rfl
     | some m => cases marksP 98 t <;> rfl
theorem endP_two (k a : Bs) (t : List Bs) (h : ¬ k = bJump) (h2 : ¬ k = bReturn) : endP (k :: a :: t) = (match markP a 114, marksP 98 t with
    | some n, some [p, q] => some ⟨2, n, p, q⟩
    | _, _ => none) := by
 unfold endP
 dsimp only
 rw [if_neg h, if_neg h2]
 match t with
 | [] =>
   show none = (match markP a 114, (some [] : Option (List Int)) with
   | some n, some [p, q] => some (⟨2, n, p, q⟩ : PEnd)
   | _, _ => none)
   cases markP a 114 <;> rfl
 | [b] =>
   rw [marksP_cons]
   dsimp only
   cases markP a 114 with
   | none => rfl
   | some n => cases markP b 98 <;> rfl
 | [b, c] =>
   rw [marksP_cons, marksP_cons]
   dsimp only
   cases markP a 114 with
   | none => rfl
   | some n =>
     cases markP b 98 with
     | none => rfl
     | some m => cases markP c 98 <;> rfl
 | b :: c :: d :: t =>
   rw [marksP_cons, marksP_cons, marksP_cons]
   dsimp only
   cases markP a 114 with
   | none => rfl
   | some n =>
     cases markP b 98 with
     | none => rfl
     | some m =>
       cases markP c 98 with
       | none => rfl
       | some q =>
         cases markP d 98 with
         | none => rfl
         | some z => cases marksP 98 t <;> rfl
theorem rmarks_cut {w W : World} {b off c r : Nat} {xs : List ByteArray} (ch : UInt8) (hx : LnR.At w ⟨some ⟨b, off, none⟩, c, xs⟩) (h64 : xs.length ≤ 20000) (hb : Below w.heap.size w W) (hn : r ≤ xs.length) : Calls Tryz.prog 105 #[.slice (if c = r then some ⟨b, off, none⟩ else some ⟨b, off + r, none⟩) (xs.length - r) (c - r), .int .u8 (ch.toNat : Int)] W (RfMarks W (marksP ch ((xs.drop r).map toL))) := by
 have hl : (xs.drop r).length = xs.length - r := List.length_drop
 have h := rmarks_any ((hx.on hb).drop r hn) ch (by show (xs.drop r).length ≤ 20000; omega)
 dsimp only at h
 rw [hl] at h
 exact h
section
variable {w : World} {x : LnR}
set_option maxRecDepth 100000 in
set_option maxHeartbeats 3200000 in
theorem rfend_jump (hx : x.Ok w) (h64 : x.xs.length ≤ 20000) {s : ByteArray} {t : List ByteArray} (hxs : x.xs = s :: t) (hk : toL s = bJump) : Calls Tryz.prog 142 #[.slice x.a x.xs.length x.c] w (RfEnd w (endP (toL s :: t.map toL))) := by
 have hx0 : 0 < x.xs.length := by rw [hxs]; exact Nat.succ_pos _
 obtain ⟨b, off, ha, hb, hc⟩ := hx.first2b hxs
 have hAt := hx.at_
 have hcle := hx.at_.hdr.cle
 have hfit : x.xs.length ≤ x.c := hx.at_.hdr.fit
 obtain ⟨A, c, xs⟩ := x
 dsimp only at *
 subst ha
 have HRB := Lib.hid (Blk.new w 69 #[.int .u8 0, .int .i64 0, .int .i64 0, .int .i64 0])
 have HBN : Hid (Below w.heap.size w (w.alloc (.cells #[.int .u8 0, .int .i64 0, .int .i64 0, .int .i64 0] 69))) := Lib.hid ((Below.refl _ _).alloc (Nat.le_refl _) _)
 have c0 : (w.alloc (.cells #[.int .u8 0, .int .i64 0, .int .i64 0, .int .i64 0] 69)).cell? ⟨b, off, none⟩ = some (.string s) := (HBN.out.cell (p := ⟨b, off, none⟩) hb).trans hc
 have HM := Lib.hid (fun W (hb : Below w.heap.size w W) => rmarks_cut (r := 1) 98 hAt h64 hb hx0)
 rw [hxs, show ((98 : UInt8).toNat : Int) = 98 from rfl] at HM
 rw [show ((s :: t).drop 1).map toL = t.map toL from rfl] at HM
 rw [endP_jump _ _ hk]
 have e0 : (s.toList == [106, 117, 109, 112]) = true := str_yes hk
 have HM1 := Lib.hid (HM.out _ HBN.out)
 rw [hxs] at hfit hx0 ⊢
 obtain ⟨o, ho⟩ : ∃ o, marksP 98 (t.map toL) = o := ⟨_, rfl⟩
 rw [ho] at HM1 ⊢
 obtain ⟨n, hn⟩ : ∃ n, (s :: t).length = n := ⟨_, rfl⟩
 rw [hn] at HM1 hx0 hfit ⊢
 have q1 : (0 : Int) < n := by omega
 have q2 : ¬ (n : Int) = 0 := by omega
 have q3 : (1 : Int) ≤ n := by omega
 have q4 : 1 ≤ n := by omega
 clear HM hk hx hAt hxs hc ho hn h64
 obtain ⟨A1, hA1⟩ : ∃ A1, A1 = (if c = 1 then (some ⟨b, off, none⟩ : Option Addr) else some ⟨b, off + 1, none⟩) := ⟨_, rfl⟩
 rw [← hA1] at HM1
 obtain ⟨K, hK⟩ : ∃ K, (match o with
  | some [n] => some (⟨1, 0, n, 0⟩ : PEnd)
  | _ => none) = K := ⟨_, rfl⟩
 rw [hK]
 have HK := Lib.hid hK
 clear hK
 go_enter Tryz.func142, Tryz.ntmps142
 go_upto_region 2 with fail
 go_cut [4, 5] from 14 to 19 (fun s4 s5 wx => ∃ (Ai : Option Addr) (ci : Nat) (l : List Int) (is : Bool), s4 = .slice Ai l.length ci ∧ s5 = .bool is ∧ Hid (Below w.heap.size w wx) ∧ Hid (Blk wx w.heap.size 69 #[.int .u8 0, .int .i64 0, .int .i64 0, .int .i64 0]) ∧ Hid (o = if is = true then some l else none) ∧ Hid (is = true → OwnInts wx w.heap.size (.slice Ai l.length ci) l))
 case first =>
  by_cases hcc : c = 1
  · rw [if_pos hcc] at hA1
    subst hA1
    subst hcc
    obtain rfl : n = 1 := by omega
    clear q1 q2 q3 q4
    cases o with
    | none =>
      go_wp2_with (go_at_call 105; refine HM1.out.mono ?_; rintro e w1 ⟨hb, rfl⟩; have HRx := Lib.hid (HRB.out.beneath hb); have HBx := Lib.hid (HBN.out.trans (hb.mono HBN.out.size)); clear hb)
      go_meet
      exact ⟨none, 0, [], false, rfl, rfl, HBx, HRx, Lib.hid rfl, Lib.hid (fun h => by cases h)⟩
    | some l =>
      go_wp2_with (go_at_call 105; refine HM1.out.mono ?_; rintro e w1 ⟨hb, Ai, ci, rfl, hown⟩; have HRx := Lib.hid (HRB.out.beneath hb); have HBx := Lib.hid (HBN.out.trans (hb.mono HBN.out.size)); have HOx := Lib.hid (hown.more HBN.out.size); clear hb hown)
      go_meet
      exact ⟨Ai, ci, l, true, rfl, rfl, HBx, HRx, Lib.hid rfl, Lib.hid (fun _ => HOx.out)⟩
  · rw [if_neg hcc] at hA1
    subst hA1
    cases o with
    | none =>
      go_wp2_with (go_at_call 105; refine HM1.out.mono ?_; rintro e w1 ⟨hb, rfl⟩; have HRx := Lib.hid (HRB.out.beneath hb); have HBx := Lib.hid (HBN.out.trans (hb.mono HBN.out.size)); clear hb)
      go_meet
      exact ⟨none, 0, [], false, rfl, rfl, HBx, HRx, Lib.hid rfl, Lib.hid (fun h => by cases h)⟩
    | some l =>
      go_wp2_with (go_at_call 105; refine HM1.out.mono ?_; rintro e w1 ⟨hb, Ai, ci, rfl, hown⟩; have HRx := Lib.hid (HRB.out.beneath hb); have HBx := Lib.hid (HBN.out.trans (hb.mono HBN.out.size)); have HOx := Lib.hid (hown.more HBN.out.size); clear hb hown)
      go_meet
      exact ⟨Ai, ci, l, true, rfl, rfl, HBx, HRx, Lib.hid rfl, Lib.hid (fun _ => HOx.out)⟩
 case rest =>
  obtain ⟨Ai, ci, l, is, rfl, rfl, HB1, HR1, HO, HOW⟩ := hcut
  cases is with
  | false =>
    have ho : o = none := HO.out
    have HI : Hid (K = none) := Lib.hid (by rw [← HK.out, ho])
    obtain ⟨z0, z1, z2, z3⟩ := HR1.out.four
    have zz := HR1.out.free
    go_wp2_with fail
    have HE := Lib.hid (put_four HR1.out (.int .u8 0) (.int .i64 0) (.int .i64 0) (.int .i64 0))
    have HBE := Lib.hid (up_four HB1.out (.int .u8 0) (.int .i64 0) (.int .i64 0) (.int .i64 0))
    obtain ⟨k0, k1, k2, k3⟩ := HE.out.four
    exact bodyPost_ret (v := .tuple #[PEnd.val ⟨0, 0, 0, 0⟩, .bool false]) (by simp [results, Tryz.results142, go_sem, PEnd.val, k0, k1, k2, k3]) rfl ⟨HBE.out, ⟨0, 0, 0, 0⟩, by rw [HI.out]; rfl, by
     rw [HI.out]
     intro q hq
     cases hq⟩
  | true =>
    have ho : o = some l := HO.out
    have HOW1 := Lib.hid (HOW.out rfl)
    obtain ⟨z0, z1, z2, z3⟩ := HR1.out.four
    have zz := HR1.out.free
    by_cases hl : l.length = 1
    · obtain ⟨m, rfl⟩ : ∃ m, l = [m] := by
       match l, hl with
       | [m], _ => exact ⟨m, rfl⟩
      have HI : Hid (K = some ⟨1, 0, m, 0⟩) := Lib.hid (by rw [← HK.out, ho])
      obtain ⟨bi, oi, rfl, hlo, hbi, hcx⟩ := (own_hdr HOW1.out).2 (Nat.succ_pos _)
      have l0 : wc.cell? ⟨bi, oi, none⟩ = some (.int .i64 m) := hcx 0 (show 0 < 1 by decide) 0 (by decide)
      clear hcx hl
      go_wp2_with fail
      have HE := Lib.hid (put_four HR1.out (.int .u8 1) (.int .i64 0) (.int .i64 m) (.int .i64 0))
      have HBE := Lib.hid (up_four HB1.out (.int .u8 1) (.int .i64 0) (.int .i64 m) (.int .i64 0))
      obtain ⟨k0, k1, k2, k3⟩ := HE.out.four
      exact bodyPost_ret (v := .tuple #[PEnd.val ⟨1, 0, m, 0⟩, .bool true]) (by simp [results, Tryz.results142, go_sem, PEnd.val, k0, k1, k2, k3]) rfl ⟨HBE.out, ⟨1, 0, m, 0⟩, by rw [HI.out]; rfl, by
       rw [HI.out]
       intro q hq
       injection hq with hq; subst hq; exact ⟨rfl, by show 1 ≤ 255; omega⟩⟩
    · have HI : Hid (K = none) := Lib.hid (by
       rw [← HK.out, ho]
       match l, hl with
       | [], _ => rfl
       | [_], hl => exact absurd rfl hl
       | _ :: _ :: _, _ => rfl)
      have q5 : ((l.length : Int) == 1) = false := by rw [beq_eq_false_iff_ne]; omega
      have q6 : ((l.length : Int) != 1) = true := by rw [bne_iff_ne]; omega
      clear hl
      go_wp2_with fail
      have HE := Lib.hid (put_four HR1.out (.int .u8 0) (.int .i64 0) (.int .i64 0) (.int .i64 0))
      have HBE := Lib.hid (up_four HB1.out (.int .u8 0) (.int .i64 0) (.int .i64 0) (.int .i64 0))
      obtain ⟨k0, k1, k2, k3⟩ := HE.out.four
      exact bodyPost_ret (v := .tuple #[PEnd.val ⟨0, 0, 0, 0⟩, .bool false]) (by simp [results, Tryz.results142, go_sem, PEnd.val, k0, k1, k2, k3]) rfl ⟨HBE.out, ⟨0, 0, 0, 0⟩, by rw [HI.out]; rfl, by
       rw [HI.out]
       intro q hq
       cases hq⟩
set_option maxRecDepth 100000 in
set_option maxHeartbeats 3200000 in
theorem rfend_few (hx : x.Ok w) {s : ByteArray} (hxs : x.xs = [s]) (hk : ¬ toL s = bJump) : Calls Tryz.prog 142 #[.slice x.a x.xs.length x.c] w (RfEnd w (endP [toL s])) := by
 have hx0 : 0 < x.xs.length := by rw [hxs]; exact Nat.succ_pos _
 obtain ⟨b, off, ha, hb, hc⟩ := hx.first2b hxs
 have hAt := hx.at_
 have hcle := hx.at_.hdr.cle
 have hfit : x.xs.length ≤ x.c := hx.at_.hdr.fit
 obtain ⟨A, c, xs⟩ := x
 dsimp only at *
 subst ha
 have HRB := Lib.hid (Blk.new w 69 #[.int .u8 0, .int .i64 0, .int .i64 0, .int .i64 0])
 have HBN : Hid (Below w.heap.size w (w.alloc (.cells #[.int .u8 0, .int .i64 0, .int .i64 0, .int .i64 0] 69))) := Lib.hid ((Below.refl _ _).alloc (Nat.le_refl _) _)
 have c0 : (w.alloc (.cells #[.int .u8 0, .int .i64 0, .int .i64 0, .int .i64 0] 69)).cell? ⟨b, off, none⟩ = some (.string s) := (HBN.out.cell (p := ⟨b, off, none⟩) hb).trans hc
 have HI : Hid (endP [toL s] = none) := Lib.hid (endP_few _ hk)
 have e0 : (s.toList == [106, 117, 109, 112]) = false := str_no hk
 rw [hxs] at hfit hx0 ⊢
 rw [show ([s] : List ByteArray).length = 1 from rfl] at hfit hx0 ⊢
 clear hk hx hAt hxs hc
 obtain ⟨K, hK⟩ : ∃ K, endP [toL s] = K := ⟨_, rfl⟩
 rw [hK] at HI ⊢
 clear hK
 go_enter Tryz.func142, Tryz.ntmps142
 go_wp2_with fail
 have HE := HRB
 have HBE := HBN
 obtain ⟨k0, k1, k2, k3⟩ := HE.out.four
 exact bodyPost_ret (v := .tuple #[PEnd.val ⟨0, 0, 0, 0⟩, .bool false]) (by simp [results, Tryz.results142, go_sem, PEnd.val, k0, k1, k2, k3]) rfl ⟨HBE.out, ⟨0, 0, 0, 0⟩, by rw [HI.out]; rfl, by
  rw [HI.out]
  intro q hq
  cases hq⟩
set_option maxRecDepth 100000 in
set_option maxHeartbeats 6400000 in
theorem rfend_ret (hx : x.Ok w) (h64 : x.xs.length ≤ 20000) {s s2 : ByteArray} {t : List ByteArray} (hxs : x.xs = s :: s2 :: t) (hk : ¬ toL s = bJump) (hk2 : toL s = bReturn) : Calls Tryz.prog 142 #[.slice x.a x.xs.length x.c] w (RfEnd w (endP (toL s :: toL s2 :: t.map toL))) := by
 have hx0 : 0 < x.xs.length := by rw [hxs]; exact Nat.succ_pos _
 obtain ⟨b, off, ha, hb, hc⟩ := hx.first2b hxs
 have hAt := hx.at_
 have hcle := hx.at_.hdr.cle
 have hfit : x.xs.length ≤ x.c := hx.at_.hdr.fit
 obtain ⟨A, c, xs⟩ := x
 dsimp only at *
 subst ha
 have HRB := Lib.hid (Blk.new w 69 #[.int .u8 0, .int .i64 0, .int .i64 0, .int .i64 0])
 have HBN : Hid (Below w.heap.size w (w.alloc (.cells #[.int .u8 0, .int .i64 0, .int .i64 0, .int .i64 0] 69))) := Lib.hid ((Below.refl _ _).alloc (Nat.le_refl _) _)
 have c0 : (w.alloc (.cells #[.int .u8 0, .int .i64 0, .int .i64 0, .int .i64 0] 69)).cell? ⟨b, off, none⟩ = some (.string s) := (HBN.out.cell (p := ⟨b, off, none⟩) hb).trans hc
 have hc1 : w.cell? ⟨b, off + 1, none⟩ = some (.string s2) := by
  have h := hAt.strs
  have h := h.elem (i := 1) (by rw [hxs]; exact Nat.succ_lt_succ (Nat.succ_pos _))
  obtain ⟨b', off', s', e1, hb', hcell, he⟩ := h
  injection e1 with e1
  injection e1 with e1 e2 _
  subst e1 e2
  rw [hcell, ← he.out]
  dsimp only
  rw [hxs]
  rfl
 have c1 : (w.alloc (.cells #[.int .u8 0, .int .i64 0, .int .i64 0, .int .i64 0] 69)).cell? ⟨b, off + 1, none⟩ = some (.string s2) := (HBN.out.cell (p := ⟨b, off + 1, none⟩) hb).trans hc1
 have HM := Lib.hid (fun W (hb : Below w.heap.size w W) => rmarks_cut (r := 2) 98 hAt h64 hb (by rw [hxs]; exact Nat.succ_le_succ (Nat.succ_le_succ (Nat.zero_le _))))
 rw [hxs, show ((98 : UInt8).toNat : Int) = 98 from rfl] at HM
 rw [show ((s :: s2 :: t).drop 2).map toL = t.map toL from rfl] at HM
 rw [endP_ret _ _ _ hk hk2]
 have HMK := Lib.hid (fun (W : World) => rmark_is s2 114 W)
 rw [show ((114 : UInt8).toNat : Int) = 114 from rfl] at HMK
 have e0 : (s.toList == [106, 117, 109, 112]) = false := str_no hk
 have e1 : (s.toList == [114, 101, 116, 117, 114, 110]) = true := str_yes hk2
 have h2n : 2 ≤ (s :: s2 :: t).length := Nat.succ_le_succ (Nat.succ_le_succ (Nat.zero_le _))
 rw [hxs] at hfit hx0 ⊢
 obtain ⟨o1, ho1⟩ : ∃ o1, markP (toL s2) 114 = o1 := ⟨_, rfl⟩
 rw [ho1] at HMK ⊢
 obtain ⟨o2, ho2⟩ : ∃ o2, marksP 98 (t.map toL) = o2 := ⟨_, rfl⟩
 rw [ho2] at HM ⊢
 obtain ⟨n, hn⟩ : ∃ n, (s :: s2 :: t).length = n := ⟨_, rfl⟩
 rw [hn] at HM hx0 hfit h2n ⊢
 have q1 : (0 : Int) < n := by omega
 have q2 : ¬ (n : Int) < 2 := by omega
 have q3 : (1 : Int) < n := by omega
 have q4 : 2 ≤ n := by omega
 have q5 : (2 : Int) ≤ n := by omega
 clear hk hk2 hx hAt hxs hc hc1 ho1 ho2 hn h64
 obtain ⟨A1, hA1⟩ : ∃ A1, A1 = (if c = 2 then (some ⟨b, off, none⟩ : Option Addr) else some ⟨b, off + 2, none⟩) := ⟨_, rfl⟩
 rw [← hA1] at HM
 obtain ⟨K, hK⟩ : ∃ K, (match o1, o2 with
  | some n, some [] => some (⟨3, n, 0, 0⟩ : PEnd)
  | _, _ => none) = K := ⟨_, rfl⟩
 rw [hK]
 have HK := Lib.hid hK
 clear hK
 go_enter Tryz.func142, Tryz.ntmps142
 go_upto_region 9 with (go_at_call 65; refine (HMK.out _).mono ?_; rintro e w1 ⟨rfl, hb1⟩; have HR1 := Lib.hid (HRB.out.beneath hb1); have HB1 := Lib.hid (HBN.out.trans (hb1.mono HBN.out.size)); have HM1 := Lib.hid (HM.out _ HB1.out); have d0 : w1.cell? ⟨b, off, none⟩ = some (.string s) := (hb1.cell (p := ⟨b, off, none⟩) (by rw [World.size_alloc]; exact Nat.lt_succ_of_lt hb)).trans c0; have hbw : b < w1.heap.size := Nat.lt_of_lt_of_le (by rw [World.size_alloc]; exact Nat.lt_succ_of_lt hb) hb1.size; clear hb1)
 clear c0 c1 HM HMK
 go_cut [8, 9] from 43 to 48 (fun s8 s9 wx => ∃ (Ai : Option Addr) (ci : Nat) (l : List Int) (is : Bool), s8 = .slice Ai l.length ci ∧ s9 = .bool is ∧ Hid (Below w.heap.size w wx) ∧ Hid (Blk wx w.heap.size 69 #[.int .u8 0, .int .i64 0, .int .i64 0, .int .i64 0]) ∧ Hid (o2 = if is = true then some l else none) ∧ Hid (is = true → OwnInts wx w.heap.size (.slice Ai l.length ci) l) ∧ wx.cell? ⟨b, off, none⟩ = some (.string s))
 case first =>
  by_cases hcc : c = 2
  · rw [if_pos hcc] at hA1
    subst hA1
    subst hcc
    obtain rfl : n = 2 := by omega
    clear q1 q2 q3 q4 q5
    cases o2 with
    | none =>
      go_wp2_with (go_at_call 105; refine HM1.out.mono ?_; rintro e w2 ⟨hb, rfl⟩; have HRx := Lib.hid (HR1.out.beneath hb); have HBx := Lib.hid (HB1.out.trans (hb.mono HB1.out.size)); have d1 : w2.cell? ⟨b, off, none⟩ = some (.string s) := (hb.cell (p := ⟨b, off, none⟩) hbw).trans d0; clear hb)
      go_meet
      exact ⟨none, 0, [], false, rfl, rfl, HBx, HRx, Lib.hid rfl, Lib.hid (fun h => by cases h), d1⟩
    | some l =>
      go_wp2_with (go_at_call 105; refine HM1.out.mono ?_; rintro e w2 ⟨hb, Ai, ci, rfl, hown⟩; have HRx := Lib.hid (HR1.out.beneath hb); have HBx := Lib.hid (HB1.out.trans (hb.mono HB1.out.size)); have HOx := Lib.hid (hown.more HB1.out.size); have d1 : w2.cell? ⟨b, off, none⟩ = some (.string s) := (hb.cell (p := ⟨b, off, none⟩) hbw).trans d0; clear hb hown)
      go_meet
      exact ⟨Ai, ci, l, true, rfl, rfl, HBx, HRx, Lib.hid rfl, Lib.hid (fun _ => HOx.out), d1⟩
  · rw [if_neg hcc] at hA1
    subst hA1
    cases o2 with
    | none =>
      go_wp2_with (go_at_call 105; refine HM1.out.mono ?_; rintro e w2 ⟨hb, rfl⟩; have HRx := Lib.hid (HR1.out.beneath hb); have HBx := Lib.hid (HB1.out.trans (hb.mono HB1.out.size)); have d1 : w2.cell? ⟨b, off, none⟩ = some (.string s) := (hb.cell (p := ⟨b, off, none⟩) hbw).trans d0; clear hb)
      go_meet
      exact ⟨none, 0, [], false, rfl, rfl, HBx, HRx, Lib.hid rfl, Lib.hid (fun h => by cases h), d1⟩
    | some l =>
      go_wp2_with (go_at_call 105; refine HM1.out.mono ?_; rintro e w2 ⟨hb, Ai, ci, rfl, hown⟩; have HRx := Lib.hid (HR1.out.beneath hb); have HBx := Lib.hid (HB1.out.trans (hb.mono HB1.out.size)); have HOx := Lib.hid (hown.more HB1.out.size); have d1 : w2.cell? ⟨b, off, none⟩ = some (.string s) := (hb.cell (p := ⟨b, off, none⟩) hbw).trans d0; clear hb hown)
      go_meet
      exact ⟨Ai, ci, l, true, rfl, rfl, HBx, HRx, Lib.hid rfl, Lib.hid (fun _ => HOx.out), d1⟩
 case rest =>
  obtain ⟨Ai, ci, l, is, rfl, rfl, HB2, HR2, HO, HOW, d1⟩ := hcut
  clear d0 hbw HM1
  obtain ⟨z0, z1, z2, z3⟩ := HR2.out.four
  have zz := HR2.out.free
  cases o1 with
  | none =>
    dsimp only [Option.getD, errN]
    cases is with
    | false =>
      have ho : o2 = none := HO.out
      have HI : Hid (K = none) := Lib.hid (by rw [← HK.out, ho])
      go_wp2_with fail
      have HE := Lib.hid (put_four HR2.out (.int .u8 3) (.int .i64 0) (.int .i64 0) (.int .i64 0))
      have HBE := Lib.hid (up_four HB2.out (.int .u8 3) (.int .i64 0) (.int .i64 0) (.int .i64 0))
      obtain ⟨k0, k1, k2, k3⟩ := HE.out.four
      exact bodyPost_ret (v := .tuple #[PEnd.val ⟨3, 0, 0, 0⟩, .bool false]) (by simp [results, Tryz.results142, go_sem, PEnd.val, k0, k1, k2, k3]) rfl ⟨HBE.out, ⟨3, 0, 0, 0⟩, by rw [HI.out]; rfl, by
       rw [HI.out]
       intro q hq
       cases hq⟩
    | true =>
      have ho : o2 = some l := HO.out
      by_cases hl : l.length = 0
      · obtain rfl : l = [] := List.eq_nil_of_length_eq_zero hl
        clear hl
        have HI : Hid (K = none) := Lib.hid (by rw [← HK.out, ho])
        go_wp2_with fail
        have HE := Lib.hid (put_four HR2.out (.int .u8 3) (.int .i64 0) (.int .i64 0) (.int .i64 0))
        have HBE := Lib.hid (up_four HB2.out (.int .u8 3) (.int .i64 0) (.int .i64 0) (.int .i64 0))
        obtain ⟨k0, k1, k2, k3⟩ := HE.out.four
        exact bodyPost_ret (v := .tuple #[PEnd.val ⟨3, 0, 0, 0⟩, .bool false]) (by simp [results, Tryz.results142, go_sem, PEnd.val, k0, k1, k2, k3]) rfl ⟨HBE.out, ⟨3, 0, 0, 0⟩, by rw [HI.out]; rfl, by
         rw [HI.out]
         intro q hq
         cases hq⟩
      · have HI : Hid (K = none) := Lib.hid (by rw [← HK.out, ho])
        have q6 : ((l.length : Int) == 0) = false := by rw [beq_eq_false_iff_ne]; omega
        have q7 : ((l.length : Int) != 0) = true := by rw [bne_iff_ne]; omega
        clear hl
        go_wp2_with fail
        have HE := Lib.hid (put_four HR2.out (.int .u8 3) (.int .i64 0) (.int .i64 0) (.int .i64 0))
        have HBE := Lib.hid (up_four HB2.out (.int .u8 3) (.int .i64 0) (.int .i64 0) (.int .i64 0))
        obtain ⟨k0, k1, k2, k3⟩ := HE.out.four
        exact bodyPost_ret (v := .tuple #[PEnd.val ⟨3, 0, 0, 0⟩, .bool false]) (by simp [results, Tryz.results142, go_sem, PEnd.val, k0, k1, k2, k3]) rfl ⟨HBE.out, ⟨3, 0, 0, 0⟩, by rw [HI.out]; rfl, by
         rw [HI.out]
         intro q hq
         cases hq⟩
  | some a =>
    dsimp only [Option.getD, errN]
    cases is with
    | false =>
      have ho : o2 = none := HO.out
      have HI : Hid (K = none) := Lib.hid (by rw [← HK.out, ho])
      go_wp2_with fail
      have HE := Lib.hid (put_four HR2.out (.int .u8 3) (.int .i64 a) (.int .i64 0) (.int .i64 0))
      have HBE := Lib.hid (up_four HB2.out (.int .u8 3) (.int .i64 a) (.int .i64 0) (.int .i64 0))
      obtain ⟨k0, k1, k2, k3⟩ := HE.out.four
      exact bodyPost_ret (v := .tuple #[PEnd.val ⟨3, a, 0, 0⟩, .bool false]) (by simp [results, Tryz.results142, go_sem, PEnd.val, k0, k1, k2, k3]) rfl ⟨HBE.out, ⟨3, a, 0, 0⟩, by rw [HI.out]; rfl, by
       rw [HI.out]
       intro q hq
       cases hq⟩
    | true =>
      have ho : o2 = some l := HO.out
      by_cases hl : l.length = 0
      · obtain rfl : l = [] := List.eq_nil_of_length_eq_zero hl
        clear hl
        have HI : Hid (K = some ⟨3, a, 0, 0⟩) := Lib.hid (by rw [← HK.out, ho])
        go_wp2_with fail
        have HE := Lib.hid (put_four HR2.out (.int .u8 3) (.int .i64 a) (.int .i64 0) (.int .i64 0))
        have HBE := Lib.hid (up_four HB2.out (.int .u8 3) (.int .i64 a) (.int .i64 0) (.int .i64 0))
        obtain ⟨k0, k1, k2, k3⟩ := HE.out.four
        exact bodyPost_ret (v := .tuple #[PEnd.val ⟨3, a, 0, 0⟩, .bool true]) (by simp [results, Tryz.results142, go_sem, PEnd.val, k0, k1, k2, k3]) rfl ⟨HBE.out, ⟨3, a, 0, 0⟩, by rw [HI.out]; rfl, by
         rw [HI.out]
         intro q hq
         injection hq with hq; subst hq; exact ⟨rfl, by show 3 ≤ 255; omega⟩⟩
      · have HI : Hid (K = none) := Lib.hid (by
         rw [← HK.out, ho]
         match l, hl with
         | [], hl => exact absurd rfl hl
         | _ :: _, _ => rfl)
        have q6 : ((l.length : Int) == 0) = false := by rw [beq_eq_false_iff_ne]; omega
        have q7 : ((l.length : Int) != 0) = true := by rw [bne_iff_ne]; omega
        clear hl
        go_wp2_with fail
        have HE := Lib.hid (put_four HR2.out (.int .u8 3) (.int .i64 a) (.int .i64 0) (.int .i64 0))
        have HBE := Lib.hid (up_four HB2.out (.int .u8 3) (.int .i64 a) (.int .i64 0) (.int .i64 0))
        obtain ⟨k0, k1, k2, k3⟩ := HE.out.four
        exact bodyPost_ret (v := .tuple #[PEnd.val ⟨3, a, 0, 0⟩, .bool false]) (by simp [results, Tryz.results142, go_sem, PEnd.val, k0, k1, k2, k3]) rfl ⟨HBE.out, ⟨3, a, 0, 0⟩, by rw [HI.out]; rfl, by
         rw [HI.out]
         intro q hq
         cases hq⟩
set_option maxRecDepth 100000 in
set_option maxHeartbeats 6400000 in
theorem rfend_two (hx : x.Ok w) (h64 : x.xs.length ≤ 20000) {s s2 : ByteArray} {t : List ByteArray} (hxs : x.xs = s :: s2 :: t) (hk : ¬ toL s = bJump) (hk2 : ¬ toL s = bReturn) : Calls Tryz.prog 142 #[.slice x.a x.xs.length x.c] w (RfEnd w (endP (toL s :: toL s2 :: t.map toL))) := by
 have hx0 : 0 < x.xs.length := by rw [hxs]; exact Nat.succ_pos _
 obtain ⟨b, off, ha, hb, hc⟩ := hx.first2b hxs
 have hAt := hx.at_
 have hcle := hx.at_.hdr.cle
 have hfit : x.xs.length ≤ x.c := hx.at_.hdr.fit
 obtain ⟨A, c, xs⟩ := x
 dsimp only at *
 subst ha
 have HRB := Lib.hid (Blk.new w 69 #[.int .u8 0, .int .i64 0, .int .i64 0, .int .i64 0])
 have HBN : Hid (Below w.heap.size w (w.alloc (.cells #[.int .u8 0, .int .i64 0, .int .i64 0, .int .i64 0] 69))) := Lib.hid ((Below.refl _ _).alloc (Nat.le_refl _) _)
 have c0 : (w.alloc (.cells #[.int .u8 0, .int .i64 0, .int .i64 0, .int .i64 0] 69)).cell? ⟨b, off, none⟩ = some (.string s) := (HBN.out.cell (p := ⟨b, off, none⟩) hb).trans hc
 have hc1 : w.cell? ⟨b, off + 1, none⟩ = some (.string s2) := by
  have h := hAt.strs
  have h := h.elem (i := 1) (by rw [hxs]; exact Nat.succ_lt_succ (Nat.succ_pos _))
  obtain ⟨b', off', s', e1, hb', hcell, he⟩ := h
  injection e1 with e1
  injection e1 with e1 e2 _
  subst e1 e2
  rw [hcell, ← he.out]
  dsimp only
  rw [hxs]
  rfl
 have c1 : (w.alloc (.cells #[.int .u8 0, .int .i64 0, .int .i64 0, .int .i64 0] 69)).cell? ⟨b, off + 1, none⟩ = some (.string s2) := (HBN.out.cell (p := ⟨b, off + 1, none⟩) hb).trans hc1
 have HM := Lib.hid (fun W (hb : Below w.heap.size w W) => rmarks_cut (r := 2) 98 hAt h64 hb (by rw [hxs]; exact Nat.succ_le_succ (Nat.succ_le_succ (Nat.zero_le _))))
 rw [hxs, show ((98 : UInt8).toNat : Int) = 98 from rfl] at HM
 rw [show ((s :: s2 :: t).drop 2).map toL = t.map toL from rfl] at HM
 rw [endP_two _ _ _ hk hk2]
 have HMK := Lib.hid (fun (W : World) => rmark_is s2 114 W)
 rw [show ((114 : UInt8).toNat : Int) = 114 from rfl] at HMK
 have e0 : (s.toList == [106, 117, 109, 112]) = false := str_no hk
 have e1 : (s.toList == [114, 101, 116, 117, 114, 110]) = false := str_no hk2
 have h2n : 2 ≤ (s :: s2 :: t).length := Nat.succ_le_succ (Nat.succ_le_succ (Nat.zero_le _))
 rw [hxs] at hfit hx0 ⊢
 obtain ⟨o1, ho1⟩ : ∃ o1, markP (toL s2) 114 = o1 := ⟨_, rfl⟩
 rw [ho1] at HMK ⊢
 obtain ⟨o2, ho2⟩ : ∃ o2, marksP 98 (t.map toL) = o2 := ⟨_, rfl⟩
 rw [ho2] at HM ⊢
 obtain ⟨n, hn⟩ : ∃ n, (s :: s2 :: t).length = n := ⟨_, rfl⟩
 rw [hn] at HM hx0 hfit h2n ⊢
 have q1 : (0 : Int) < n := by omega
 have q2 : ¬ (n : Int) < 2 := by omega
 have q3 : (1 : Int) < n := by omega
 have q4 : 2 ≤ n := by omega
 have q5 : (2 : Int) ≤ n := by omega
 clear hk hk2 hx hAt hxs hc hc1 ho1 ho2 hn h64
 obtain ⟨A1, hA1⟩ : ∃ A1, A1 = (if c = 2 then (some ⟨b, off, none⟩ : Option Addr) else some ⟨b, off + 2, none⟩) := ⟨_, rfl⟩
 rw [← hA1] at HM
 obtain ⟨K, hK⟩ : ∃ K, (match o1, o2 with
  | some n, some [p, q] => some (⟨2, n, p, q⟩ : PEnd)
  | _, _ => none) = K := ⟨_, rfl⟩
 rw [hK]
 have HK := Lib.hid hK
 clear hK
 go_enter Tryz.func142, Tryz.ntmps142
 go_upto_region 9 with (go_at_call 65; refine (HMK.out _).mono ?_; rintro e w1 ⟨rfl, hb1⟩; have HR1 := Lib.hid (HRB.out.beneath hb1); have HB1 := Lib.hid (HBN.out.trans (hb1.mono HBN.out.size)); have HM1 := Lib.hid (HM.out _ HB1.out); have d0 : w1.cell? ⟨b, off, none⟩ = some (.string s) := (hb1.cell (p := ⟨b, off, none⟩) (by rw [World.size_alloc]; exact Nat.lt_succ_of_lt hb)).trans c0; have hbw : b < w1.heap.size := Nat.lt_of_lt_of_le (by rw [World.size_alloc]; exact Nat.lt_succ_of_lt hb) hb1.size; clear hb1)
 clear c0 c1 HM HMK
 go_cut [8, 9] from 43 to 48 (fun s8 s9 wx => ∃ (Ai : Option Addr) (ci : Nat) (l : List Int) (is : Bool), s8 = .slice Ai l.length ci ∧ s9 = .bool is ∧ Hid (Below w.heap.size w wx) ∧ Hid (Blk wx w.heap.size 69 #[.int .u8 0, .int .i64 0, .int .i64 0, .int .i64 0]) ∧ Hid (o2 = if is = true then some l else none) ∧ Hid (is = true → OwnInts wx w.heap.size (.slice Ai l.length ci) l) ∧ wx.cell? ⟨b, off, none⟩ = some (.string s))
 case first =>
  by_cases hcc : c = 2
  · rw [if_pos hcc] at hA1
    subst hA1
    subst hcc
    obtain rfl : n = 2 := by omega
    clear q1 q2 q3 q4 q5
    cases o2 with
    | none =>
      go_wp2_with (go_at_call 105; refine HM1.out.mono ?_; rintro e w2 ⟨hb, rfl⟩; have HRx := Lib.hid (HR1.out.beneath hb); have HBx := Lib.hid (HB1.out.trans (hb.mono HB1.out.size)); have d1 : w2.cell? ⟨b, off, none⟩ = some (.string s) := (hb.cell (p := ⟨b, off, none⟩) hbw).trans d0; clear hb)
      go_meet
      exact ⟨none, 0, [], false, rfl, rfl, HBx, HRx, Lib.hid rfl, Lib.hid (fun h => by cases h), d1⟩
    | some l =>
      go_wp2_with (go_at_call 105; refine HM1.out.mono ?_; rintro e w2 ⟨hb, Ai, ci, rfl, hown⟩; have HRx := Lib.hid (HR1.out.beneath hb); have HBx := Lib.hid (HB1.out.trans (hb.mono HB1.out.size)); have HOx := Lib.hid (hown.more HB1.out.size); have d1 : w2.cell? ⟨b, off, none⟩ = some (.string s) := (hb.cell (p := ⟨b, off, none⟩) hbw).trans d0; clear hb hown)
      go_meet
      exact ⟨Ai, ci, l, true, rfl, rfl, HBx, HRx, Lib.hid rfl, Lib.hid (fun _ => HOx.out), d1⟩
  · rw [if_neg hcc] at hA1
    subst hA1
    cases o2 with
    | none =>
      go_wp2_with (go_at_call 105; refine HM1.out.mono ?_; rintro e w2 ⟨hb, rfl⟩; have HRx := Lib.hid (HR1.out.beneath hb); have HBx := Lib.hid (HB1.out.trans (hb.mono HB1.out.size)); have d1 : w2.cell? ⟨b, off, none⟩ = some (.string s) := (hb.cell (p := ⟨b, off, none⟩) hbw).trans d0; clear hb)
      go_meet
      exact ⟨none, 0, [], false, rfl, rfl, HBx, HRx, Lib.hid rfl, Lib.hid (fun h => by cases h), d1⟩
    | some l =>
      go_wp2_with (go_at_call 105; refine HM1.out.mono ?_; rintro e w2 ⟨hb, Ai, ci, rfl, hown⟩; have HRx := Lib.hid (HR1.out.beneath hb); have HBx := Lib.hid (HB1.out.trans (hb.mono HB1.out.size)); have HOx := Lib.hid (hown.more HB1.out.size); have d1 : w2.cell? ⟨b, off, none⟩ = some (.string s) := (hb.cell (p := ⟨b, off, none⟩) hbw).trans d0; clear hb hown)
      go_meet
      exact ⟨Ai, ci, l, true, rfl, rfl, HBx, HRx, Lib.hid rfl, Lib.hid (fun _ => HOx.out), d1⟩
 case rest =>
  obtain ⟨Ai, ci, l, is, rfl, rfl, HB2, HR2, HO, HOW, d1⟩ := hcut
  clear d0 hbw HM1
  obtain ⟨z0, z1, z2, z3⟩ := HR2.out.four
  have zz := HR2.out.free
  cases o1 with
  | none =>
    dsimp only [Option.getD, errN]
    cases is with
    | false =>
      have ho : o2 = none := HO.out
      have HI : Hid (K = none) := Lib.hid (by rw [← HK.out, ho])
      go_wp2_with fail
      have HE := Lib.hid (put_four HR2.out (.int .u8 0) (.int .i64 0) (.int .i64 0) (.int .i64 0))
      have HBE := Lib.hid (up_four HB2.out (.int .u8 0) (.int .i64 0) (.int .i64 0) (.int .i64 0))
      obtain ⟨k0, k1, k2, k3⟩ := HE.out.four
      exact bodyPost_ret (v := .tuple #[PEnd.val ⟨0, 0, 0, 0⟩, .bool false]) (by simp [results, Tryz.results142, go_sem, PEnd.val, k0, k1, k2, k3]) rfl ⟨HBE.out, ⟨0, 0, 0, 0⟩, by rw [HI.out]; rfl, by
       rw [HI.out]
       intro q hq
       cases hq⟩
    | true =>
      have ho : o2 = some l := HO.out
      by_cases hl : l.length = 2
      · obtain ⟨p, q, rfl⟩ : ∃ p q, l = [p, q] := by
         match l, hl with
         | [p, q], _ => exact ⟨p, q, rfl⟩
        clear hl
        have HI : Hid (K = none) := Lib.hid (by rw [← HK.out, ho])
        go_wp2_with fail
        have HE := Lib.hid (put_four HR2.out (.int .u8 0) (.int .i64 0) (.int .i64 0) (.int .i64 0))
        have HBE := Lib.hid (up_four HB2.out (.int .u8 0) (.int .i64 0) (.int .i64 0) (.int .i64 0))
        obtain ⟨k0, k1, k2, k3⟩ := HE.out.four
        exact bodyPost_ret (v := .tuple #[PEnd.val ⟨0, 0, 0, 0⟩, .bool false]) (by simp [results, Tryz.results142, go_sem, PEnd.val, k0, k1, k2, k3]) rfl ⟨HBE.out, ⟨0, 0, 0, 0⟩, by rw [HI.out]; rfl, by
         rw [HI.out]
         intro q hq
         cases hq⟩
      · have HI : Hid (K = none) := Lib.hid (by rw [← HK.out, ho])
        have q6 : ((l.length : Int) == 2) = false := by rw [beq_eq_false_iff_ne]; omega
        have q7 : ((l.length : Int) != 2) = true := by rw [bne_iff_ne]; omega
        clear hl
        go_wp2_with fail
        have HE := Lib.hid (put_four HR2.out (.int .u8 0) (.int .i64 0) (.int .i64 0) (.int .i64 0))
        have HBE := Lib.hid (up_four HB2.out (.int .u8 0) (.int .i64 0) (.int .i64 0) (.int .i64 0))
        obtain ⟨k0, k1, k2, k3⟩ := HE.out.four
        exact bodyPost_ret (v := .tuple #[PEnd.val ⟨0, 0, 0, 0⟩, .bool false]) (by simp [results, Tryz.results142, go_sem, PEnd.val, k0, k1, k2, k3]) rfl ⟨HBE.out, ⟨0, 0, 0, 0⟩, by rw [HI.out]; rfl, by
         rw [HI.out]
         intro q hq
         cases hq⟩
  | some a =>
    dsimp only [Option.getD, errN]
    cases is with
    | false =>
      have ho : o2 = none := HO.out
      have HI : Hid (K = none) := Lib.hid (by rw [← HK.out, ho])
      go_wp2_with fail
      have HE := Lib.hid (put_four HR2.out (.int .u8 0) (.int .i64 0) (.int .i64 0) (.int .i64 0))
      have HBE := Lib.hid (up_four HB2.out (.int .u8 0) (.int .i64 0) (.int .i64 0) (.int .i64 0))
      obtain ⟨k0, k1, k2, k3⟩ := HE.out.four
      exact bodyPost_ret (v := .tuple #[PEnd.val ⟨0, 0, 0, 0⟩, .bool false]) (by simp [results, Tryz.results142, go_sem, PEnd.val, k0, k1, k2, k3]) rfl ⟨HBE.out, ⟨0, 0, 0, 0⟩, by rw [HI.out]; rfl, by
       rw [HI.out]
       intro q hq
       cases hq⟩
    | true =>
      have ho : o2 = some l := HO.out
      by_cases hl : l.length = 2
      · obtain ⟨p, q, rfl⟩ : ∃ p q, l = [p, q] := by
         match l, hl with
         | [p, q], _ => exact ⟨p, q, rfl⟩
        clear hl
        have HI : Hid (K = some ⟨2, a, p, q⟩) := Lib.hid (by rw [← HK.out, ho])
        obtain ⟨bi, oi, rfl, hlo, hbi, hcx⟩ := (own_hdr (HOW.out rfl)).2 (Nat.succ_pos _)
        have l0 : wc.cell? ⟨bi, oi, none⟩ = some (.int .i64 p) := hcx 0 (show 0 < 2 by decide) 0 (by decide)
        have l1 : wc.cell? ⟨bi, oi + 1, none⟩ = some (.int .i64 q) := hcx 1 (show 1 < 2 by decide) 0 (by decide)
        clear hcx
        go_wp2_with fail
        go_region
        go_wp2_with fail
        have HE := Lib.hid (put_four HR2.out (.int .u8 2) (.int .i64 a) (.int .i64 p) (.int .i64 q))
        have HBE := Lib.hid (up_four HB2.out (.int .u8 2) (.int .i64 a) (.int .i64 p) (.int .i64 q))
        obtain ⟨k0, k1, k2, k3⟩ := HE.out.drew.four
        exact bodyPost_ret (v := .tuple #[PEnd.val ⟨2, a, p, q⟩, .bool true]) (by simp [results, Tryz.results142, go_sem, PEnd.val, k0, k1, k2, k3]) rfl ⟨HBE.out.drew, ⟨2, a, p, q⟩, by rw [HI.out]; rfl, by
         rw [HI.out]
         intro q hq
         injection hq with hq; subst hq; exact ⟨rfl, by show 2 ≤ 255; omega⟩⟩
      · have HI : Hid (K = none) := Lib.hid (by
         rw [← HK.out, ho]
         match l, hl with
         | [], _ => rfl
         | [_], _ => rfl
         | [_, _], hl => exact absurd rfl hl
         | _ :: _ :: _ :: _, _ => rfl)
        have q6 : ((l.length : Int) == 2) = false := by rw [beq_eq_false_iff_ne]; omega
        have q7 : ((l.length : Int) != 2) = true := by rw [bne_iff_ne]; omega
        clear hl
        go_wp2_with fail
        have HE := Lib.hid (put_four HR2.out (.int .u8 0) (.int .i64 0) (.int .i64 0) (.int .i64 0))
        have HBE := Lib.hid (up_four HB2.out (.int .u8 0) (.int .i64 0) (.int .i64 0) (.int .i64 0))
        obtain ⟨k0, k1, k2, k3⟩ := HE.out.four
        exact bodyPost_ret (v := .tuple #[PEnd.val ⟨0, 0, 0, 0⟩, .bool false]) (by simp [results, Tryz.results142, go_sem, PEnd.val, k0, k1, k2, k3]) rfl ⟨HBE.out, ⟨0, 0, 0, 0⟩, by rw [HI.out]; rfl, by
         rw [HI.out]
         intro q hq
         cases hq⟩
theorem rfend_any (hx : x.Ok w) (h64 : x.xs.length ≤ 20000) (h0 : 0 < x.xs.length) : Calls Tryz.prog 142 #[.slice x.a x.xs.length x.c] w (RfEnd w (endP x.data)) := by
 unfold LnR.data
 match hxs : x.xs, h0 with
 | s :: t, _ =>
   rw [← hxs]
   by_cases hk : toL s = bJump
   · have h := rfend_jump hx h64 hxs hk
     rw [hxs] at h ⊢
     exact h
   · match t, hxs with
     | [], hxs =>
       have h := rfend_few hx hxs hk
       rw [hxs] at h ⊢
       exact h
     | s2 :: t, hxs =>
       by_cases hk2 : toL s = bReturn
       · have h := rfend_ret hx h64 hxs hk hk2
         rw [hxs] at h ⊢
         exact h
       · have h := rfend_two hx h64 hxs hk hk2
         rw [hxs] at h ⊢
         exact h
end
structure InsBox (w W : World) (x0 x1 x2 x3 x4 x5 x6 : Value) : Prop where
 below : Below w.heap.size w W
 x : Blk W w.heap.size 74 #[x0, x1, x2, x3, x4, x5, x6]
 r : Blk W (w.heap.size + 1) 74 #[.int .u8 0, .int .i64 0, .int .i64 0, .int .i64 0, .int .i64 0, .slice none 0 0, .slice none 0 0]
section
variable {w W W' : World} {x0 x1 x2 x3 x4 x5 x6 : Value}
theorem InsBox.start (w : World) (x0 x1 : Value) : InsBox w ((w.alloc (.cells #[x0, x1, .int .i64 0, .int .i64 0, .int .i64 0, .slice none 0 0, .slice none 0 0] 74)).alloc (.cells #[.int .u8 0, .int .i64 0, .int .i64 0, .int .i64 0, .int .i64 0, .slice none 0 0, .slice none 0 0] 74)) x0 x1 (.int .i64 0) (.int .i64 0) (.int .i64 0) (.slice none 0 0) (.slice none 0 0) :=
 ⟨((Below.refl _ _).alloc (Nat.le_refl _) _).alloc (by rw [World.size_alloc]; omega) _, (Blk.new w _ _).alloc _, Blk.new2 w _ _ _⟩
theorem InsBox.call (h : InsBox w W x0 x1 x2 x3 x4 x5 x6) (hb : Below W.heap.size W W') : InsBox w W' x0 x1 x2 x3 x4 x5 x6 :=
 ⟨h.below.trans (hb.mono h.below.size), h.x.beneath hb, h.r.beneath hb⟩
theorem InsBox.drew (h : InsBox w W x0 x1 x2 x3 x4 x5 x6) : InsBox w W.drew x0 x1 x2 x3 x4 x5 x6 := ⟨h.below.drew, h.x.drew, h.r.drew⟩
theorem InsBox.drewN (h : InsBox w W x0 x1 x2 x3 x4 x5 x6) (n : Nat) : InsBox w (W.drewN n) x0 x1 x2 x3 x4 x5 x6 := ⟨belowDrewN h.below n, h.x.drewN n, h.r.drewN n⟩
theorem InsBox.put2 (h : InsBox w W x0 x1 x2 x3 x4 x5 x6) (a : Value) : InsBox w (W.setCell ⟨w.heap.size, 2, none⟩ a) x0 x1 a x3 x4 x5 x6 :=
 ⟨h.below.setCell (p := ⟨w.heap.size, 2, none⟩) (Nat.le_refl _) a, h.x.put 2 a, h.r.far (p := ⟨w.heap.size, 2, none⟩) (Nat.succ_ne_self _) a⟩
theorem InsBox.put3 (h : InsBox w W x0 x1 x2 x3 x4 x5 x6) (a : Value) : InsBox w (W.setCell ⟨w.heap.size, 3, none⟩ a) x0 x1 x2 a x4 x5 x6 :=
 ⟨h.below.setCell (p := ⟨w.heap.size, 3, none⟩) (Nat.le_refl _) a, h.x.put 3 a, h.r.far (p := ⟨w.heap.size, 3, none⟩) (Nat.succ_ne_self _) a⟩
theorem InsBox.put4 (h : InsBox w W x0 x1 x2 x3 x4 x5 x6) (a : Value) : InsBox w (W.setCell ⟨w.heap.size, 4, none⟩ a) x0 x1 x2 x3 a x5 x6 :=
 ⟨h.below.setCell (p := ⟨w.heap.size, 4, none⟩) (Nat.le_refl _) a, h.x.put 4 a, h.r.far (p := ⟨w.heap.size, 4, none⟩) (Nat.succ_ne_self _) a⟩
theorem InsBox.put5 (h : InsBox w W x0 x1 x2 x3 x4 x5 x6) (a : Value) : InsBox w (W.setCell ⟨w.heap.size, 5, none⟩ a) x0 x1 x2 x3 x4 a x6 :=
 ⟨h.below.setCell (p := ⟨w.heap.size, 5, none⟩) (Nat.le_refl _) a, h.x.put 5 a, h.r.far (p := ⟨w.heap.size, 5, none⟩) (Nat.succ_ne_self _) a⟩
end
theorem far_seven {W : World} {g k : Nat} {t : TypeId} {cs : Array Value} (h : Blk W g t cs) (hn : g ≠ k) (a0 a1 a2 a3 a4 a5 a6 : Value) :
    Blk (((((((W.setCell ⟨k, 0, none⟩ a0).setCell ⟨k, 1, none⟩ a1).setCell ⟨k, 2, none⟩ a2).setCell ⟨k, 3, none⟩ a3).setCell ⟨k, 4, none⟩ a4).setCell ⟨k, 5, none⟩ a5).setCell ⟨k, 6, none⟩ a6) g t cs :=
 ((((((h.far (p := ⟨k, 0, none⟩) hn a0).far (p := ⟨k, 1, none⟩) hn a1).far (p := ⟨k, 2, none⟩) hn a2).far (p := ⟨k, 3, none⟩) hn a3).far (p := ⟨k, 4, none⟩) hn a4).far (p := ⟨k, 5, none⟩) hn a5).far (p := ⟨k, 6, none⟩) hn a6
theorem ruses7_any {op r : Nat} (hop : op ≤ 255) (h22 : op ≠ 22) (hr : regN op = r) (W : World) : Calls Tryz.prog 124 #[.agg #[.int .u8 op, .int .i64 0, .int .i64 0, .int .i64 0, .int .i64 0, .slice none 0 0, .slice none 0 0]] W fun e w' => ∃ A c, e = .returned (.slice A r c) ∧ Below W.heap.size W w' := by
 have h := ruses_any (op := op) rfl rfl rfl 0 0 0 0 (A := none) (ca := 0) (args := []) ⟨Nat.le_refl _, Nat.zero_le _, fun _ => ⟨rfl, rfl⟩⟩ (w := W) (fun hn => absurd hn (Nat.lt_irrefl 0)) (Nat.zero_le _) none 0 0
 refine Calls.mono h ?_
 rintro e w' ⟨v, rfl, ho, hb⟩
 obtain ⟨A, c, rfl, _⟩ := ho.form
 exact ⟨A, c, by rw [regN_uses op h22, hr], hb⟩
theorem rmarks7_take {w W : World} {b off c r : Nat} {xs : List ByteArray} (hx : LnR.At w ⟨some ⟨b, off, none⟩, c, xs⟩) (h64 : xs.length ≤ 20000) (hb : Below w.heap.size w W) (hn : r ≤ xs.length) : Calls Tryz.prog 105 #[.slice (some ⟨b, off, none⟩) r c, .int .u8 114] W (RfMarks W (marksP 114 ((xs.take r).map toL))) := by
 have hl : (xs.take r).length = r := by rw [List.length_take]; omega
 have h := rmarks_any ((hx.on hb).take r hn) 114 (by show (xs.take r).length ≤ 20000; omega)
 dsimp only at h
 rw [hl, show ((114 : UInt8).toNat : Int) = 114 from rfl] at h
 exact h
theorem rmarks7_drop {w W : World} {b off c r : Nat} {xs : List ByteArray} (hx : LnR.At w ⟨some ⟨b, off, none⟩, c, xs⟩) (h64 : xs.length ≤ 20000) (hb : Below w.heap.size w W) (hn : r ≤ xs.length) : Calls Tryz.prog 105 #[.slice (if c = r then some ⟨b, off, none⟩ else some ⟨b, off + r, none⟩) (xs.length - r) (c - r), .int .u8 114] W (RfMarks W (marksP 114 ((xs.drop r).map toL))) := by
 have hl : (xs.drop r).length = xs.length - r := List.length_drop
 have h := rmarks_any ((hx.on hb).drop r hn) 114 (by show (xs.drop r).length ≤ 20000; omega)
 dsimp only at h
 rw [hl, show ((114 : UInt8).toNat : Int) = 114 from rfl] at h
 exact h
theorem hasP_p {op : Nat} (h2 : hasT op 2 = false) (ty a b : Int) (W : List Bs) : (match numW op W with
      | some (n, w2) => (argsW op w2).map fun m => (⟨op, ty, a, b, n, m, []⟩ : PIns)
      | none => none) = (argsW op W).map fun m => ⟨op, ty, a, b, 0, m, []⟩ := by
 unfold numW
 rw [h2]
 rfl
theorem args_none {op : Nat} {W : List Bs} (h : marksP 114 W = none) : argsW op W = none := by
 rw [argsW_law, h]
 exact if_neg (fun e => by cases e.1)
theorem args_some {op : Nat} {W : List Bs} {l : List Int} (h : marksP 114 W = some l) (h1 : W = [] ∨ hasT op 3 = true) : argsW op W = some l := by
 rw [argsW_law, h]
 exact if_pos ⟨rfl, h1⟩
theorem args_not {op : Nat} {W : List Bs} (h1 : ¬ W = []) (h3 : hasT op 3 = false) : argsW op W = none := by
 rw [argsW_law]
 exact if_neg (fun e => e.2.elim h1 (fun e => by rw [h3] at e; cases e))
end Go.Proofs.YtbffebcjimhapaaGreatDoor
