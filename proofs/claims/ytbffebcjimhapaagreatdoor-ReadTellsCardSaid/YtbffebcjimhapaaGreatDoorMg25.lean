/-
  The reference's reader: the type of a line.
-/
import Derived.Test.YtbffebcjimhapaaGreatDoorMg24
namespace Go.Proofs.YtbffebcjimhapaaGreatDoor
set_option linter.unusedVariables false
set_option linter.unusedSimpArgs false
open Go.ChangeShapes Go.WideShapes Go.ChangeAt Go.RowKit
structure SubInts (w : World) (lo : Nat) (A : Option Addr) (c : Nat) (xs : List Int) : Prop where
 hdr : Hdr A xs.length c
 ints : IntsAt w lo w.heap.size A xs
 blk : 0 < xs.length → ∃ b o, A = some ⟨b, o, none⟩ ∧ TBlk w b 3
section
variable {w w' : World} {lo lo' : Nat} {A : Option Addr} {c : Nat} {xs : List Int} {t : TypeId}
theorem SubInts.spare (h : SubInts w lo A c xs) (hs : Spare t w w') (hne : 3 ≠ t) : SubInts w' lo A c xs := by
 refine ⟨h.hdr, fun hn => ?_, fun hn => ?_⟩
 · obtain ⟨b, off, e1, l1, l2, hc⟩ := h.ints hn
   obtain ⟨b', o', e', cur, ht⟩ := h.blk hn
   rw [e1] at e'
   injection e' with e'
   injection e' with e' _ _
   subst e'
   have hk : w'.heap[b]? = w.heap[b]? := (hs.block _ _ _ _ ht hne).trans ht.symm
   exact ⟨b, off, e1, l1, Nat.lt_of_lt_of_le l2 hs.size, fun i hi j hj => by rw [World.cell?_of_block hk]; exact hc i hi j hj⟩
 · obtain ⟨b, o, e, ht⟩ := h.blk hn
   exact ⟨b, o, e, ht.spare hs hne⟩
theorem SubInts.keep (h : SubInts w lo A c xs) (hb : Below w.heap.size w w') : SubInts w' lo A c xs := ⟨h.hdr, (IntsAt.keep h.ints hb).more (Nat.le_refl _) hb.size, fun hn => by
 obtain ⟨b, o, e, ht⟩ := h.blk hn
 exact ⟨b, o, e, ht.beneath hb⟩⟩
theorem SubInts.drew (h : SubInts w lo A c xs) : SubInts w.drew lo A c xs := h.keep (Below.refl _ _).drew
theorem SubInts.more (h : SubInts w lo A c xs) (hl : lo' ≤ lo) : SubInts w lo' A c xs := ⟨h.hdr, h.ints.more hl (Nat.le_refl _), h.blk⟩
theorem SubInts.nought (w : World) (lo : Nat) : SubInts w lo none 0 [] := ⟨⟨Nat.le_refl _, Nat.zero_le _, fun _ => ⟨rfl, rfl⟩⟩, fun h => absurd h (Nat.lt_irrefl 0), fun h => absurd h (Nat.lt_irrefl 0)⟩
theorem OwnInts.sub (h : OwnInts w lo (.slice A xs.length c) xs) : SubInts w lo A c xs := by
 obtain ⟨h1, h2⟩ := own_hdr h
 refine ⟨h1, h2, fun hn => ?_⟩
 rcases h.2 with ⟨e, h0⟩ | ⟨g, cap, cur, e, _, hh, _⟩
 · have : xs.length = 0 := h0
   omega
 · injection e with e _ _
   exact ⟨g, 0, e, cur, hh⟩
theorem SubInts.cut1 (h : SubInts w lo A c xs) (hn : 0 < xs.length) : SubInts w lo (if c = 1 then A else up1 A) (c - 1) (xs.drop 1) := by
 obtain ⟨hd, hi, hb⟩ := h
 obtain ⟨b, off, e, h1, h2, hc⟩ := hi hn
 obtain ⟨b', o', e', ht⟩ := hb hn
 rw [e] at e'
 injection e' with e'
 injection e' with e' _ _
 subst e' e
 have hf : xs.length ≤ c := hd.fit
 have hcap : c ≤ maxLen := hd.cap
 have hA : 0 < (xs.drop 1).length → (if c = 1 then (some ⟨b, off, none⟩ : Option Addr) else up1 (some ⟨b, off, none⟩)) = some ⟨b, off + 1, none⟩ := fun hp => by
  rw [List.length_drop] at hp
  exact if_neg (show ¬ c = 1 by omega)
 refine ⟨⟨?_, ?_, fun h => by dsimp only [up1] at h; split at h <;> cases h⟩, fun hn' => ⟨b, off + 1, hA hn', h1, h2, fun i hi j hj => ?_⟩, fun hn' => ⟨b, off + 1, hA hn', ht⟩⟩
 · rw [List.length_drop]; omega
 · omega
 · have hi' : i < (xs.drop 1).length := hi
   rw [List.length_drop] at hi'
   have := hc (i + 1) (by omega) j hj
   rw [show off + (i + 1) * 1 + j = off + 1 + i * 1 + j by omega] at this
   rw [this]
   dsimp only
   rw [List.getD_eq_getElem?_getD, List.getD_eq_getElem?_getD, List.getElem?_drop, Nat.add_comm 1 i]
end
theorem ints_at1 {w : World} {lo : Nat} {A : Option Addr} {xs : List Int} {x : Int} (h : IntsAt w lo w.heap.size A xs) (hx : xs = [x]) : ∃ b off, A = some ⟨b, off, none⟩ ∧ b < w.heap.size ∧ w.cell? ⟨b, off, none⟩ = some (.int .i64 x) := by
 subst hx
 obtain ⟨b, off, e, _, h2, hc⟩ := h (Nat.succ_pos _)
 exact ⟨b, off, e, h2, hc 0 (Nat.succ_pos _) 0 (Nat.succ_pos _)⟩
theorem ints_first {w : World} {lo : Nat} {A : Option Addr} {xs : List Int} {x : Int} (h : IntsAt w lo w.heap.size A (x :: xs)) : ∃ b off, A = some ⟨b, off, none⟩ ∧ b < w.heap.size ∧ w.cell? ⟨b, off, none⟩ = some (.int .i64 x) := by
 obtain ⟨b, off, e, _, h2, hc⟩ := h (Nat.succ_pos _)
 exact ⟨b, off, e, h2, hc 0 (Nat.succ_pos _) 0 (Nat.succ_pos _)⟩
def RfKind (w : World) (o : Option Ty) (e : Ending) (w' : World) : Prop :=
 Below w.heap.size w w' ∧ ∃ r : TyR, e = .returned (.tuple #[r.val, .bool o.isSome]) ∧ ∀ t, o = some t → r.data = t ∧ SubInts w' w.heap.size r.pa r.pc r.parts ∧ r.kind ≤ 255
section
variable {w : World} {x : LnR}
theorem up_four {W : World} {g : Nat} (h : Below g w W) (a0 a1 a2 a3 : Value) : Below g w ((((W.setCell ⟨g, 0, none⟩ a0).setCell ⟨g, 1, none⟩ a1).setCell ⟨g, 2, none⟩ a2).setCell ⟨g, 3, none⟩ a3) :=
 (((h.setCell (p := ⟨g, 0, none⟩) (Nat.le_refl _) _).setCell (p := ⟨g, 1, none⟩) (Nat.le_refl _) _).setCell (p := ⟨g, 2, none⟩) (Nat.le_refl _) _).setCell (p := ⟨g, 3, none⟩) (Nat.le_refl _) _
theorem put_four {W : World} {g : Nat} {t : TypeId} {x0 x1 x2 x3 : Value} (h : Blk W g t #[x0, x1, x2, x3]) (a0 a1 a2 a3 : Value) : Blk ((((W.setCell ⟨g, 0, none⟩ a0).setCell ⟨g, 1, none⟩ a1).setCell ⟨g, 2, none⟩ a2).setCell ⟨g, 3, none⟩ a3) g t #[a0, a1, a2, a3] :=
 (((h.put 0 a0).put 1 a1).put 2 a2).put 3 a3
theorem spare_four {W : World} {g : Nat} {t : TypeId} {x0 x1 x2 x3 : Value} (h : Blk W g t #[x0, x1, x2, x3]) (a0 a1 a2 a3 : Value) : Spare t W ((((W.setCell ⟨g, 0, none⟩ a0).setCell ⟨g, 1, none⟩ a1).setCell ⟨g, 2, none⟩ a2).setCell ⟨g, 3, none⟩ a3) :=
 (((Spare.set h a0).trans (Spare.set (h.put 0 a0) a1)).trans (Spare.set ((h.put 0 a0).put 1 a1) a2)).trans (Spare.set (((h.put 0 a0).put 1 a1).put 2 a2) a3)
theorem LnR.Ok.first2b (h : x.Ok w) {s : ByteArray} {rest : List ByteArray} (hd : x.xs = s :: rest) : ∃ b off, x.a = some ⟨b, off, none⟩ ∧ b < w.heap.size ∧ w.cell? ⟨b, off, none⟩ = some (.string s) := by
 obtain ⟨b, off, s', ha, hb, hc, hrow, _⟩ := h.first (by rw [hd]; exact Nat.succ_pos _)
 rw [hd] at hrow
 injection hrow with e1 e2
 subst e1
 exact ⟨b, off, ha, hb, hc⟩
set_option maxRecDepth 100000 in
set_option maxHeartbeats 3200000 in
theorem rfkind_int (hx : x.Ok w) (h64 : x.xs.length ≤ 20000) {s : ByteArray} {t : List ByteArray} (hxs : x.xs = s :: t) (na : ¬ toL s = bArray) (k0 : toL s = bInt) : Calls Tryz.prog 64 #[.slice x.a x.xs.length x.c] w (RfKind w (kindP (toL s :: t.map toL))) := by
 have hx0 : 0 < x.xs.length := by rw [hxs]; exact Nat.succ_pos _
 have HM := Lib.hid (fun W (hb : Below w.heap.size w W) => rmarks_any (((hx.on hb).rest hx0).at_) 116 (by show (x.xs.drop 1).length ≤ 20000; rw [List.length_drop]; omega))
 have hdr : x.rest.data = t.map toL := by show (x.xs.drop 1).map toL = _; rw [hxs]; rfl
 rw [hdr, show ((116 : UInt8).toNat : Int) = 116 from rfl] at HM
 have hlen : x.rest.xs.length = x.xs.length - 1 := by show (x.xs.drop 1).length = _; rw [List.length_drop]
 rw [hlen] at HM
 obtain ⟨b, off, ha, hb, hc⟩ := hx.first2b hxs
 have hra : x.rest.a = if x.c = 1 then some ⟨b, off, none⟩ else some ⟨b, off + 1, none⟩ := by
  unfold LnR.rest
  rw [ha]
  rfl
 have hrc : x.rest.c = x.c - 1 := rfl
 rw [hra, hrc] at HM
 have hcle := hx.at_.hdr.cle
 have hfit : x.xs.length ≤ x.c := hx.at_.hdr.fit
 have HRB := Lib.hid (Blk.new w 78 #[.int .u8 0, .int .i64 0, .int .i64 0, .slice none 0 0])
 have HBN : Hid (Below w.heap.size w (w.alloc (.cells #[.int .u8 0, .int .i64 0, .int .i64 0, .slice none 0 0] 78))) := Lib.hid ((Below.refl _ _).alloc (Nat.le_refl _) _)
 have c0 : (w.alloc (.cells #[.int .u8 0, .int .i64 0, .int .i64 0, .slice none 0 0] 78)).cell? ⟨b, off, none⟩ = some (.string s) := (HBN.out.cell (p := ⟨b, off, none⟩) hb).trans hc
 have HM1 := Lib.hid (HM.out _ HBN.out)
 clear HM hdr hlen hra hrc hx hc
 obtain ⟨A, c, xs⟩ := x
 dsimp only at *
 subst ha
 obtain ⟨n, hn⟩ : ∃ n, xs.length = n := ⟨_, rfl⟩
 rw [hn] at HM1 hx0 hcle hfit ⊢
 have q1 : (0 : Int) < n := by omega
 have q2 : ¬ (n : Int) = 0 := by omega
 have q3 : (1 : Int) ≤ n := by omega
 have q4 : 1 ≤ n := by omega
 clear hn hxs
 obtain ⟨A1, hA1⟩ : ∃ A1, A1 = (if c = 1 then (some ⟨b, off, none⟩ : Option Addr) else some ⟨b, off + 1, none⟩) := ⟨_, rfl⟩
 rw [← hA1] at HM1
 obtain ⟨o, ho⟩ : ∃ o, marksP 116 (t.map toL) = o := ⟨_, rfl⟩
 rw [ho] at HM1
 have hml := fun l (h : o = some l) => marksP_len _ _ (ho.trans h)
 obtain ⟨K, hK⟩ : ∃ K, kindP (toL s :: t.map toL) = K := ⟨_, rfl⟩
 have hk := hK
 unfold kindP at hk
 dsimp only at hk
 rw [if_neg na] at hk
 rw [if_pos k0] at hk
 rw [hK]
 have ea : (s.toList == [97, 114, 114, 97, 121]) = false := str_no na
 have e0 : (s.toList == [105, 110, 116]) = true := str_yes k0
 clear hK na k0
 have HHO := Lib.hid ho
 have HHK := Lib.hid hk
 have HHL := Lib.hid hml
 clear ho hk hml
 go_enter Tryz.func64, Tryz.ntmps64
 by_cases hcc : c = 1
 · rw [if_pos hcc] at hA1
   subst hA1
   subst hcc
   obtain rfl : n = 1 := by omega
   clear q1 q2 q3 q4
   cases o with
   | none =>
     have HI : Hid (K = none) := Lib.hid (by
      have h := HHK.out
      have h2 := HHO.out
      cases t with
      | nil => cases h2
      | cons a t' => rw [← h]; exact if_neg (by simp))
     go_wp2_with (go_at_call 105; refine HM1.out.mono ?_; rintro e w1 ⟨hb1, rfl⟩; have HR1 := Lib.hid (HRB.out.beneath hb1); have HB1 := Lib.hid (HBN.out.trans (hb1.mono HBN.out.size)); obtain ⟨z0, z1, z2, z3⟩ := HR1.out.four; have c1 : w1.cell? ⟨b, off, none⟩ = some (.string s) := (hb1.cell (p := ⟨b, off, none⟩) (by rw [World.size_alloc]; exact Nat.lt_succ_of_lt hb)).trans c0; have zz := HR1.out.free; clear hb1)
     have HE := Lib.hid (put_four HR1.out (.int .u8 1) (.int .i64 0) (.int .i64 0) (.slice none 0 0))
     have HBE := Lib.hid (up_four HB1.out (.int .u8 1) (.int .i64 0) (.int .i64 0) (.slice none 0 0))
     obtain ⟨q0, q1, q2, q3⟩ := HE.out.four
     exact bodyPost_ret (v := .tuple #[TyR.val ⟨1, 0, 0, none, 0, []⟩, .bool false]) (by simp [results, Tryz.results64, go_sem, TyR.val, q0, q1, q2, q3]) rfl ⟨HBE.out, ⟨1, 0, 0, none, 0, []⟩, by rw [HI.out]; rfl, by
      rw [HI.out]
      intro t ht
      cases ht⟩
   | some l =>
     have HLT : Hid (l.length = t.length) := Lib.hid (by rw [HHL.out l rfl, List.length_map])
     by_cases hl : l.length = 0
     · have hl' : l = [] := List.eq_nil_of_length_eq_zero hl
       subst hl'
       have HI : Hid (K = some ⟨1, 0, 0, []⟩) := Lib.hid (by
        have h2 := HLT.out
        have h3 : t = [] := List.eq_nil_of_length_eq_zero h2.symm
        rw [← HHK.out, h3]
        rfl)
       go_wp2_with (go_at_call 105; refine HM1.out.mono ?_; rintro e w1 ⟨hb1, Ai, ci, rfl, hown⟩; have HR1 := Lib.hid (HRB.out.beneath hb1); have HB1 := Lib.hid (HBN.out.trans (hb1.mono HBN.out.size)); have HO1 := Lib.hid (hown.more HBN.out.size); have hci := (own_hdr hown).1.cle; have hcf := (own_hdr hown).1.fit; obtain ⟨z0, z1, z2, z3⟩ := HR1.out.four; have c1 : w1.cell? ⟨b, off, none⟩ = some (.string s) := (hb1.cell (p := ⟨b, off, none⟩) (by rw [World.size_alloc]; exact Nat.lt_succ_of_lt hb)).trans c0; have zz := HR1.out.free; clear hb1 hown)
       have HE := Lib.hid (put_four HR1.out (.int .u8 1) (.int .i64 0) (.int .i64 0) (.slice none 0 0))
       have HBE := Lib.hid (up_four HB1.out (.int .u8 1) (.int .i64 0) (.int .i64 0) (.slice none 0 0))
       obtain ⟨q0, q1, q2, q3⟩ := HE.out.four
       exact bodyPost_ret (v := .tuple #[TyR.val ⟨1, 0, 0, none, 0, []⟩, .bool true]) (by simp [results, Tryz.results64, go_sem, TyR.val, q0, q1, q2, q3]) rfl ⟨HBE.out, ⟨1, 0, 0, none, 0, []⟩, by rw [HI.out]; rfl, by
        rw [HI.out]
        intro t ht
        injection ht with ht; subst ht; exact ⟨rfl, SubInts.nought _ _, by show 1 ≤ 255; omega⟩⟩
     · have HI : Hid (K = none) := Lib.hid (by
        rw [← HHK.out]
        refine if_neg fun h => hl ?_
        rw [HLT.out, ← List.length_map (f := toL), h]
        rfl)
       have q5 : ((l.length : Int) == 0) = false := by rw [beq_eq_false_iff_ne]; omega
       clear hl
       go_wp2_with (go_at_call 105; refine HM1.out.mono ?_; rintro e w1 ⟨hb1, Ai, ci, rfl, hown⟩; have HR1 := Lib.hid (HRB.out.beneath hb1); have HB1 := Lib.hid (HBN.out.trans (hb1.mono HBN.out.size)); have HO1 := Lib.hid (hown.more HBN.out.size); have hci := (own_hdr hown).1.cle; have hcf := (own_hdr hown).1.fit; obtain ⟨z0, z1, z2, z3⟩ := HR1.out.four; have c1 : w1.cell? ⟨b, off, none⟩ = some (.string s) := (hb1.cell (p := ⟨b, off, none⟩) (by rw [World.size_alloc]; exact Nat.lt_succ_of_lt hb)).trans c0; have zz := HR1.out.free; clear hb1 hown)
       have HE := Lib.hid (put_four HR1.out (.int .u8 1) (.int .i64 0) (.int .i64 0) (.slice none 0 0))
       have HBE := Lib.hid (up_four HB1.out (.int .u8 1) (.int .i64 0) (.int .i64 0) (.slice none 0 0))
       obtain ⟨q0, q1, q2, q3⟩ := HE.out.four
       exact bodyPost_ret (v := .tuple #[TyR.val ⟨1, 0, 0, none, 0, []⟩, .bool false]) (by simp [results, Tryz.results64, go_sem, TyR.val, q0, q1, q2, q3]) rfl ⟨HBE.out, ⟨1, 0, 0, none, 0, []⟩, by rw [HI.out]; rfl, by
        rw [HI.out]
        intro t ht
        cases ht⟩
 · rw [if_neg hcc] at hA1
   subst hA1
   cases o with
   | none =>
     have HI : Hid (K = none) := Lib.hid (by
      have h := HHK.out
      have h2 := HHO.out
      cases t with
      | nil => cases h2
      | cons a t' => rw [← h]; exact if_neg (by simp))
     go_wp2_with (go_at_call 105; refine HM1.out.mono ?_; rintro e w1 ⟨hb1, rfl⟩; have HR1 := Lib.hid (HRB.out.beneath hb1); have HB1 := Lib.hid (HBN.out.trans (hb1.mono HBN.out.size)); obtain ⟨z0, z1, z2, z3⟩ := HR1.out.four; have c1 : w1.cell? ⟨b, off, none⟩ = some (.string s) := (hb1.cell (p := ⟨b, off, none⟩) (by rw [World.size_alloc]; exact Nat.lt_succ_of_lt hb)).trans c0; have zz := HR1.out.free; clear hb1)
     have HE := Lib.hid (put_four HR1.out (.int .u8 1) (.int .i64 0) (.int .i64 0) (.slice none 0 0))
     have HBE := Lib.hid (up_four HB1.out (.int .u8 1) (.int .i64 0) (.int .i64 0) (.slice none 0 0))
     obtain ⟨q0, q1, q2, q3⟩ := HE.out.four
     exact bodyPost_ret (v := .tuple #[TyR.val ⟨1, 0, 0, none, 0, []⟩, .bool false]) (by simp [results, Tryz.results64, go_sem, TyR.val, q0, q1, q2, q3]) rfl ⟨HBE.out, ⟨1, 0, 0, none, 0, []⟩, by rw [HI.out]; rfl, by
      rw [HI.out]
      intro t ht
      cases ht⟩
   | some l =>
     have HLT : Hid (l.length = t.length) := Lib.hid (by rw [HHL.out l rfl, List.length_map])
     by_cases hl : l.length = 0
     · have hl' : l = [] := List.eq_nil_of_length_eq_zero hl
       subst hl'
       have HI : Hid (K = some ⟨1, 0, 0, []⟩) := Lib.hid (by
        have h2 := HLT.out
        have h3 : t = [] := List.eq_nil_of_length_eq_zero h2.symm
        rw [← HHK.out, h3]
        rfl)
       go_wp2_with (go_at_call 105; refine HM1.out.mono ?_; rintro e w1 ⟨hb1, Ai, ci, rfl, hown⟩; have HR1 := Lib.hid (HRB.out.beneath hb1); have HB1 := Lib.hid (HBN.out.trans (hb1.mono HBN.out.size)); have HO1 := Lib.hid (hown.more HBN.out.size); have hci := (own_hdr hown).1.cle; have hcf := (own_hdr hown).1.fit; obtain ⟨z0, z1, z2, z3⟩ := HR1.out.four; have c1 : w1.cell? ⟨b, off, none⟩ = some (.string s) := (hb1.cell (p := ⟨b, off, none⟩) (by rw [World.size_alloc]; exact Nat.lt_succ_of_lt hb)).trans c0; have zz := HR1.out.free; clear hb1 hown)
       have HE := Lib.hid (put_four HR1.out (.int .u8 1) (.int .i64 0) (.int .i64 0) (.slice none 0 0))
       have HBE := Lib.hid (up_four HB1.out (.int .u8 1) (.int .i64 0) (.int .i64 0) (.slice none 0 0))
       obtain ⟨q0, q1, q2, q3⟩ := HE.out.four
       exact bodyPost_ret (v := .tuple #[TyR.val ⟨1, 0, 0, none, 0, []⟩, .bool true]) (by simp [results, Tryz.results64, go_sem, TyR.val, q0, q1, q2, q3]) rfl ⟨HBE.out, ⟨1, 0, 0, none, 0, []⟩, by rw [HI.out]; rfl, by
        rw [HI.out]
        intro t ht
        injection ht with ht; subst ht; exact ⟨rfl, SubInts.nought _ _, by show 1 ≤ 255; omega⟩⟩
     · have HI : Hid (K = none) := Lib.hid (by
        rw [← HHK.out]
        refine if_neg fun h => hl ?_
        rw [HLT.out, ← List.length_map (f := toL), h]
        rfl)
       have q5 : ((l.length : Int) == 0) = false := by rw [beq_eq_false_iff_ne]; omega
       clear hl
       go_wp2_with (go_at_call 105; refine HM1.out.mono ?_; rintro e w1 ⟨hb1, Ai, ci, rfl, hown⟩; have HR1 := Lib.hid (HRB.out.beneath hb1); have HB1 := Lib.hid (HBN.out.trans (hb1.mono HBN.out.size)); have HO1 := Lib.hid (hown.more HBN.out.size); have hci := (own_hdr hown).1.cle; have hcf := (own_hdr hown).1.fit; obtain ⟨z0, z1, z2, z3⟩ := HR1.out.four; have c1 : w1.cell? ⟨b, off, none⟩ = some (.string s) := (hb1.cell (p := ⟨b, off, none⟩) (by rw [World.size_alloc]; exact Nat.lt_succ_of_lt hb)).trans c0; have zz := HR1.out.free; clear hb1 hown)
       have HE := Lib.hid (put_four HR1.out (.int .u8 1) (.int .i64 0) (.int .i64 0) (.slice none 0 0))
       have HBE := Lib.hid (up_four HB1.out (.int .u8 1) (.int .i64 0) (.int .i64 0) (.slice none 0 0))
       obtain ⟨q0, q1, q2, q3⟩ := HE.out.four
       exact bodyPost_ret (v := .tuple #[TyR.val ⟨1, 0, 0, none, 0, []⟩, .bool false]) (by simp [results, Tryz.results64, go_sem, TyR.val, q0, q1, q2, q3]) rfl ⟨HBE.out, ⟨1, 0, 0, none, 0, []⟩, by rw [HI.out]; rfl, by
        rw [HI.out]
        intro t ht
        cases ht⟩
set_option maxRecDepth 100000 in
set_option maxHeartbeats 3200000 in
theorem rfkind_ptr (hx : x.Ok w) (h64 : x.xs.length ≤ 20000) {s : ByteArray} {t : List ByteArray} (hxs : x.xs = s :: t) (na : ¬ toL s = bArray) (n0 : ¬ toL s = bInt) (k1 : toL s = bPtr) : Calls Tryz.prog 64 #[.slice x.a x.xs.length x.c] w (RfKind w (kindP (toL s :: t.map toL))) := by
 have hx0 : 0 < x.xs.length := by rw [hxs]; exact Nat.succ_pos _
 have HM := Lib.hid (fun W (hb : Below w.heap.size w W) => rmarks_any (((hx.on hb).rest hx0).at_) 116 (by show (x.xs.drop 1).length ≤ 20000; rw [List.length_drop]; omega))
 have hdr : x.rest.data = t.map toL := by show (x.xs.drop 1).map toL = _; rw [hxs]; rfl
 rw [hdr, show ((116 : UInt8).toNat : Int) = 116 from rfl] at HM
 have hlen : x.rest.xs.length = x.xs.length - 1 := by show (x.xs.drop 1).length = _; rw [List.length_drop]
 rw [hlen] at HM
 obtain ⟨b, off, ha, hb, hc⟩ := hx.first2b hxs
 have hra : x.rest.a = if x.c = 1 then some ⟨b, off, none⟩ else some ⟨b, off + 1, none⟩ := by
  unfold LnR.rest
  rw [ha]
  rfl
 have hrc : x.rest.c = x.c - 1 := rfl
 rw [hra, hrc] at HM
 have hcle := hx.at_.hdr.cle
 have hfit : x.xs.length ≤ x.c := hx.at_.hdr.fit
 have HRB := Lib.hid (Blk.new w 78 #[.int .u8 0, .int .i64 0, .int .i64 0, .slice none 0 0])
 have HBN : Hid (Below w.heap.size w (w.alloc (.cells #[.int .u8 0, .int .i64 0, .int .i64 0, .slice none 0 0] 78))) := Lib.hid ((Below.refl _ _).alloc (Nat.le_refl _) _)
 have c0 : (w.alloc (.cells #[.int .u8 0, .int .i64 0, .int .i64 0, .slice none 0 0] 78)).cell? ⟨b, off, none⟩ = some (.string s) := (HBN.out.cell (p := ⟨b, off, none⟩) hb).trans hc
 have HM1 := Lib.hid (HM.out _ HBN.out)
 clear HM hdr hlen hra hrc hx hc
 obtain ⟨A, c, xs⟩ := x
 dsimp only at *
 subst ha
 obtain ⟨n, hn⟩ : ∃ n, xs.length = n := ⟨_, rfl⟩
 rw [hn] at HM1 hx0 hcle hfit ⊢
 have q1 : (0 : Int) < n := by omega
 have q2 : ¬ (n : Int) = 0 := by omega
 have q3 : (1 : Int) ≤ n := by omega
 have q4 : 1 ≤ n := by omega
 clear hn hxs
 obtain ⟨A1, hA1⟩ : ∃ A1, A1 = (if c = 1 then (some ⟨b, off, none⟩ : Option Addr) else some ⟨b, off + 1, none⟩) := ⟨_, rfl⟩
 rw [← hA1] at HM1
 obtain ⟨o, ho⟩ : ∃ o, marksP 116 (t.map toL) = o := ⟨_, rfl⟩
 rw [ho] at HM1
 have hml := fun l (h : o = some l) => marksP_len _ _ (ho.trans h)
 obtain ⟨K, hK⟩ : ∃ K, kindP (toL s :: t.map toL) = K := ⟨_, rfl⟩
 have hk := hK
 unfold kindP at hk
 dsimp only at hk
 rw [if_neg na] at hk
 rw [if_neg n0] at hk
 rw [if_pos k1] at hk
 rw [hK]
 have ea : (s.toList == [97, 114, 114, 97, 121]) = false := str_no na
 have e0 : (s.toList == [105, 110, 116]) = false := str_no n0
 have e1 : (s.toList == [112, 116, 114]) = true := str_yes k1
 clear hK na n0 k1
 have HHO := Lib.hid ho
 have HHK := Lib.hid hk
 have HHL := Lib.hid hml
 clear ho hk hml
 go_enter Tryz.func64, Tryz.ntmps64
 by_cases hcc : c = 1
 · rw [if_pos hcc] at hA1
   subst hA1
   subst hcc
   obtain rfl : n = 1 := by omega
   clear q1 q2 q3 q4
   cases o with
   | none =>
     have HI : Hid (K = none) := Lib.hid (by
      have h := HHK.out
      have h2 := HHO.out
      match t, h, h2 with
      | [], h, h2 => cases h2
      | [a], h, h2 =>
        rw [← h]
        have h2 : marksP 116 [toL a] = none := h2
        rw [marksP_cons] at h2
        show (markP (toL a) 116).map _ = none
        cases hm : markP (toL a) 116 with
        | none => rfl
        | some q => rw [hm] at h2; cases h2
      | _ :: _ :: _, h, h2 => exact h.symm)
     go_wp2_with (go_at_call 105; refine HM1.out.mono ?_; rintro e w1 ⟨hb1, rfl⟩; have HR1 := Lib.hid (HRB.out.beneath hb1); have HB1 := Lib.hid (HBN.out.trans (hb1.mono HBN.out.size)); obtain ⟨z0, z1, z2, z3⟩ := HR1.out.four; have c1 : w1.cell? ⟨b, off, none⟩ = some (.string s) := (hb1.cell (p := ⟨b, off, none⟩) (by rw [World.size_alloc]; exact Nat.lt_succ_of_lt hb)).trans c0; have zz := HR1.out.free; clear hb1)
     have HE := Lib.hid (put_four HR1.out (.int .u8 0) (.int .i64 0) (.int .i64 0) (.slice none 0 0))
     have HBE := Lib.hid (up_four HB1.out (.int .u8 0) (.int .i64 0) (.int .i64 0) (.slice none 0 0))
     obtain ⟨q0, q1, q2, q3⟩ := HE.out.four
     exact bodyPost_ret (v := .tuple #[TyR.val ⟨0, 0, 0, none, 0, []⟩, .bool false]) (by simp [results, Tryz.results64, go_sem, TyR.val, q0, q1, q2, q3]) rfl ⟨HBE.out, ⟨0, 0, 0, none, 0, []⟩, by rw [HI.out]; rfl, by
      rw [HI.out]
      intro t ht
      cases ht⟩
   | some l =>
     have HLT : Hid (l.length = t.length) := Lib.hid (by rw [HHL.out l rfl, List.length_map])
     by_cases hl : l.length = 1
     · obtain ⟨m, rfl⟩ : ∃ m, l = [m] := by
        match l, hl with
        | [m], _ => exact ⟨m, rfl⟩
       have HI : Hid (K = some ⟨2, m, 0, []⟩) := Lib.hid (by
        have h := HHK.out
        have h2 := HHO.out
        match t, HLT.out, h, h2 with
        | [a], _, h, h2 =>
          rw [← h]
          have h2 : marksP 116 [toL a] = some [m] := h2
          rw [marksP_cons] at h2
          show (markP (toL a) 116).map _ = _
          cases hm : markP (toL a) 116 with
          | none => rw [hm] at h2; cases h2
          | some q =>
            rw [hm] at h2
            injection h2 with h2
            injection h2 with h2 _
            rw [h2]
            rfl)
       clear hl
       go_wp2_with (go_at_call 105; refine HM1.out.mono ?_; rintro e w1 ⟨hb1, Ai, ci, rfl, hown⟩; have HR1 := Lib.hid (HRB.out.beneath hb1); have HB1 := Lib.hid (HBN.out.trans (hb1.mono HBN.out.size)); have HO1 := Lib.hid (hown.more HBN.out.size); have hci := (own_hdr hown).1.cle; have hcf := (own_hdr hown).1.fit; obtain ⟨z0, z1, z2, z3⟩ := HR1.out.four; have c1 : w1.cell? ⟨b, off, none⟩ = some (.string s) := (hb1.cell (p := ⟨b, off, none⟩) (by rw [World.size_alloc]; exact Nat.lt_succ_of_lt hb)).trans c0; have zz := HR1.out.free; obtain ⟨bi, oi, ei, hbi, hi0⟩ := ints_at1 (own_hdr hown).2 rfl; subst ei; clear hb1 hown)
       have HE := Lib.hid (put_four HR1.out (.int .u8 2) (.int .i64 m) (.int .i64 0) (.slice none 0 0))
       have HBE := Lib.hid (up_four HB1.out (.int .u8 2) (.int .i64 m) (.int .i64 0) (.slice none 0 0))
       obtain ⟨q0, q1, q2, q3⟩ := HE.out.four
       exact bodyPost_ret (v := .tuple #[TyR.val ⟨2, m, 0, none, 0, []⟩, .bool true]) (by simp [results, Tryz.results64, go_sem, TyR.val, q0, q1, q2, q3]) rfl ⟨HBE.out, ⟨2, m, 0, none, 0, []⟩, by rw [HI.out]; rfl, by
        rw [HI.out]
        intro t ht
        injection ht with ht; subst ht; exact ⟨rfl, SubInts.nought _ _, by show 2 ≤ 255; omega⟩⟩
     · have HI : Hid (K = none) := Lib.hid (by
        have h := HHK.out
        rw [HLT.out] at hl
        match t, hl, h with
        | [], _, h => exact h.symm
        | [a], hl, _ => exact absurd rfl hl
        | _ :: _ :: _, _, h => exact h.symm)
       have q5 : ((l.length : Int) == 1) = false := by rw [beq_eq_false_iff_ne]; omega
       have q6 : ((l.length : Int) != 1) = true := by rw [bne_iff_ne]; omega
       clear hl
       go_wp2_with (go_at_call 105; refine HM1.out.mono ?_; rintro e w1 ⟨hb1, Ai, ci, rfl, hown⟩; have HR1 := Lib.hid (HRB.out.beneath hb1); have HB1 := Lib.hid (HBN.out.trans (hb1.mono HBN.out.size)); have HO1 := Lib.hid (hown.more HBN.out.size); have hci := (own_hdr hown).1.cle; have hcf := (own_hdr hown).1.fit; obtain ⟨z0, z1, z2, z3⟩ := HR1.out.four; have c1 : w1.cell? ⟨b, off, none⟩ = some (.string s) := (hb1.cell (p := ⟨b, off, none⟩) (by rw [World.size_alloc]; exact Nat.lt_succ_of_lt hb)).trans c0; have zz := HR1.out.free; clear hb1 hown)
       have HE := Lib.hid (put_four HR1.out (.int .u8 0) (.int .i64 0) (.int .i64 0) (.slice none 0 0))
       have HBE := Lib.hid (up_four HB1.out (.int .u8 0) (.int .i64 0) (.int .i64 0) (.slice none 0 0))
       obtain ⟨q0, q1, q2, q3⟩ := HE.out.four
       exact bodyPost_ret (v := .tuple #[TyR.val ⟨0, 0, 0, none, 0, []⟩, .bool false]) (by simp [results, Tryz.results64, go_sem, TyR.val, q0, q1, q2, q3]) rfl ⟨HBE.out, ⟨0, 0, 0, none, 0, []⟩, by rw [HI.out]; rfl, by
        rw [HI.out]
        intro t ht
        cases ht⟩
 · rw [if_neg hcc] at hA1
   subst hA1
   cases o with
   | none =>
     have HI : Hid (K = none) := Lib.hid (by
      have h := HHK.out
      have h2 := HHO.out
      match t, h, h2 with
      | [], h, h2 => cases h2
      | [a], h, h2 =>
        rw [← h]
        have h2 : marksP 116 [toL a] = none := h2
        rw [marksP_cons] at h2
        show (markP (toL a) 116).map _ = none
        cases hm : markP (toL a) 116 with
        | none => rfl
        | some q => rw [hm] at h2; cases h2
      | _ :: _ :: _, h, h2 => exact h.symm)
     go_wp2_with (go_at_call 105; refine HM1.out.mono ?_; rintro e w1 ⟨hb1, rfl⟩; have HR1 := Lib.hid (HRB.out.beneath hb1); have HB1 := Lib.hid (HBN.out.trans (hb1.mono HBN.out.size)); obtain ⟨z0, z1, z2, z3⟩ := HR1.out.four; have c1 : w1.cell? ⟨b, off, none⟩ = some (.string s) := (hb1.cell (p := ⟨b, off, none⟩) (by rw [World.size_alloc]; exact Nat.lt_succ_of_lt hb)).trans c0; have zz := HR1.out.free; clear hb1)
     have HE := Lib.hid (put_four HR1.out (.int .u8 0) (.int .i64 0) (.int .i64 0) (.slice none 0 0))
     have HBE := Lib.hid (up_four HB1.out (.int .u8 0) (.int .i64 0) (.int .i64 0) (.slice none 0 0))
     obtain ⟨q0, q1, q2, q3⟩ := HE.out.four
     exact bodyPost_ret (v := .tuple #[TyR.val ⟨0, 0, 0, none, 0, []⟩, .bool false]) (by simp [results, Tryz.results64, go_sem, TyR.val, q0, q1, q2, q3]) rfl ⟨HBE.out, ⟨0, 0, 0, none, 0, []⟩, by rw [HI.out]; rfl, by
      rw [HI.out]
      intro t ht
      cases ht⟩
   | some l =>
     have HLT : Hid (l.length = t.length) := Lib.hid (by rw [HHL.out l rfl, List.length_map])
     by_cases hl : l.length = 1
     · obtain ⟨m, rfl⟩ : ∃ m, l = [m] := by
        match l, hl with
        | [m], _ => exact ⟨m, rfl⟩
       have HI : Hid (K = some ⟨2, m, 0, []⟩) := Lib.hid (by
        have h := HHK.out
        have h2 := HHO.out
        match t, HLT.out, h, h2 with
        | [a], _, h, h2 =>
          rw [← h]
          have h2 : marksP 116 [toL a] = some [m] := h2
          rw [marksP_cons] at h2
          show (markP (toL a) 116).map _ = _
          cases hm : markP (toL a) 116 with
          | none => rw [hm] at h2; cases h2
          | some q =>
            rw [hm] at h2
            injection h2 with h2
            injection h2 with h2 _
            rw [h2]
            rfl)
       clear hl
       go_wp2_with (go_at_call 105; refine HM1.out.mono ?_; rintro e w1 ⟨hb1, Ai, ci, rfl, hown⟩; have HR1 := Lib.hid (HRB.out.beneath hb1); have HB1 := Lib.hid (HBN.out.trans (hb1.mono HBN.out.size)); have HO1 := Lib.hid (hown.more HBN.out.size); have hci := (own_hdr hown).1.cle; have hcf := (own_hdr hown).1.fit; obtain ⟨z0, z1, z2, z3⟩ := HR1.out.four; have c1 : w1.cell? ⟨b, off, none⟩ = some (.string s) := (hb1.cell (p := ⟨b, off, none⟩) (by rw [World.size_alloc]; exact Nat.lt_succ_of_lt hb)).trans c0; have zz := HR1.out.free; obtain ⟨bi, oi, ei, hbi, hi0⟩ := ints_at1 (own_hdr hown).2 rfl; subst ei; clear hb1 hown)
       have HE := Lib.hid (put_four HR1.out (.int .u8 2) (.int .i64 m) (.int .i64 0) (.slice none 0 0))
       have HBE := Lib.hid (up_four HB1.out (.int .u8 2) (.int .i64 m) (.int .i64 0) (.slice none 0 0))
       obtain ⟨q0, q1, q2, q3⟩ := HE.out.four
       exact bodyPost_ret (v := .tuple #[TyR.val ⟨2, m, 0, none, 0, []⟩, .bool true]) (by simp [results, Tryz.results64, go_sem, TyR.val, q0, q1, q2, q3]) rfl ⟨HBE.out, ⟨2, m, 0, none, 0, []⟩, by rw [HI.out]; rfl, by
        rw [HI.out]
        intro t ht
        injection ht with ht; subst ht; exact ⟨rfl, SubInts.nought _ _, by show 2 ≤ 255; omega⟩⟩
     · have HI : Hid (K = none) := Lib.hid (by
        have h := HHK.out
        rw [HLT.out] at hl
        match t, hl, h with
        | [], _, h => exact h.symm
        | [a], hl, _ => exact absurd rfl hl
        | _ :: _ :: _, _, h => exact h.symm)
       have q5 : ((l.length : Int) == 1) = false := by rw [beq_eq_false_iff_ne]; omega
       have q6 : ((l.length : Int) != 1) = true := by rw [bne_iff_ne]; omega
       clear hl
       go_wp2_with (go_at_call 105; refine HM1.out.mono ?_; rintro e w1 ⟨hb1, Ai, ci, rfl, hown⟩; have HR1 := Lib.hid (HRB.out.beneath hb1); have HB1 := Lib.hid (HBN.out.trans (hb1.mono HBN.out.size)); have HO1 := Lib.hid (hown.more HBN.out.size); have hci := (own_hdr hown).1.cle; have hcf := (own_hdr hown).1.fit; obtain ⟨z0, z1, z2, z3⟩ := HR1.out.four; have c1 : w1.cell? ⟨b, off, none⟩ = some (.string s) := (hb1.cell (p := ⟨b, off, none⟩) (by rw [World.size_alloc]; exact Nat.lt_succ_of_lt hb)).trans c0; have zz := HR1.out.free; clear hb1 hown)
       have HE := Lib.hid (put_four HR1.out (.int .u8 0) (.int .i64 0) (.int .i64 0) (.slice none 0 0))
       have HBE := Lib.hid (up_four HB1.out (.int .u8 0) (.int .i64 0) (.int .i64 0) (.slice none 0 0))
       obtain ⟨q0, q1, q2, q3⟩ := HE.out.four
       exact bodyPost_ret (v := .tuple #[TyR.val ⟨0, 0, 0, none, 0, []⟩, .bool false]) (by simp [results, Tryz.results64, go_sem, TyR.val, q0, q1, q2, q3]) rfl ⟨HBE.out, ⟨0, 0, 0, none, 0, []⟩, by rw [HI.out]; rfl, by
        rw [HI.out]
        intro t ht
        cases ht⟩
set_option maxRecDepth 100000 in
set_option maxHeartbeats 3200000 in
theorem rfkind_fn (hx : x.Ok w) (h64 : x.xs.length ≤ 20000) {s : ByteArray} {t : List ByteArray} (hxs : x.xs = s :: t) (na : ¬ toL s = bArray) (n0 : ¬ toL s = bInt) (n1 : ¬ toL s = bPtr) (k2 : toL s = bFn) : Calls Tryz.prog 64 #[.slice x.a x.xs.length x.c] w (RfKind w (kindP (toL s :: t.map toL))) := by
 have hx0 : 0 < x.xs.length := by rw [hxs]; exact Nat.succ_pos _
 have HM := Lib.hid (fun W (hb : Below w.heap.size w W) => rmarks_any (((hx.on hb).rest hx0).at_) 116 (by show (x.xs.drop 1).length ≤ 20000; rw [List.length_drop]; omega))
 have hdr : x.rest.data = t.map toL := by show (x.xs.drop 1).map toL = _; rw [hxs]; rfl
 rw [hdr, show ((116 : UInt8).toNat : Int) = 116 from rfl] at HM
 have hlen : x.rest.xs.length = x.xs.length - 1 := by show (x.xs.drop 1).length = _; rw [List.length_drop]
 rw [hlen] at HM
 obtain ⟨b, off, ha, hb, hc⟩ := hx.first2b hxs
 have hra : x.rest.a = if x.c = 1 then some ⟨b, off, none⟩ else some ⟨b, off + 1, none⟩ := by
  unfold LnR.rest
  rw [ha]
  rfl
 have hrc : x.rest.c = x.c - 1 := rfl
 rw [hra, hrc] at HM
 have hcle := hx.at_.hdr.cle
 have hfit : x.xs.length ≤ x.c := hx.at_.hdr.fit
 have HRB := Lib.hid (Blk.new w 78 #[.int .u8 0, .int .i64 0, .int .i64 0, .slice none 0 0])
 have HBN : Hid (Below w.heap.size w (w.alloc (.cells #[.int .u8 0, .int .i64 0, .int .i64 0, .slice none 0 0] 78))) := Lib.hid ((Below.refl _ _).alloc (Nat.le_refl _) _)
 have c0 : (w.alloc (.cells #[.int .u8 0, .int .i64 0, .int .i64 0, .slice none 0 0] 78)).cell? ⟨b, off, none⟩ = some (.string s) := (HBN.out.cell (p := ⟨b, off, none⟩) hb).trans hc
 have HM1 := Lib.hid (HM.out _ HBN.out)
 clear HM hdr hlen hra hrc hx hc
 obtain ⟨A, c, xs⟩ := x
 dsimp only at *
 subst ha
 obtain ⟨n, hn⟩ : ∃ n, xs.length = n := ⟨_, rfl⟩
 rw [hn] at HM1 hx0 hcle hfit ⊢
 have q1 : (0 : Int) < n := by omega
 have q2 : ¬ (n : Int) = 0 := by omega
 have q3 : (1 : Int) ≤ n := by omega
 have q4 : 1 ≤ n := by omega
 clear hn hxs
 obtain ⟨A1, hA1⟩ : ∃ A1, A1 = (if c = 1 then (some ⟨b, off, none⟩ : Option Addr) else some ⟨b, off + 1, none⟩) := ⟨_, rfl⟩
 rw [← hA1] at HM1
 obtain ⟨o, ho⟩ : ∃ o, marksP 116 (t.map toL) = o := ⟨_, rfl⟩
 rw [ho] at HM1
 have hml := fun l (h : o = some l) => marksP_len _ _ (ho.trans h)
 obtain ⟨K, hK⟩ : ∃ K, kindP (toL s :: t.map toL) = K := ⟨_, rfl⟩
 have hk := hK
 unfold kindP at hk
 dsimp only at hk
 rw [if_neg na] at hk
 rw [if_neg n0] at hk
 rw [if_neg n1] at hk
 rw [if_pos k2] at hk
 rw [hK]
 have ea : (s.toList == [97, 114, 114, 97, 121]) = false := str_no na
 have e0 : (s.toList == [105, 110, 116]) = false := str_no n0
 have e1 : (s.toList == [112, 116, 114]) = false := str_no n1
 have e2 : (s.toList == [102, 110]) = true := str_yes k2
 clear hK na n0 n1 k2
 have HHO := Lib.hid ho
 have HHK := Lib.hid hk
 have HHL := Lib.hid hml
 clear ho hk hml
 go_enter Tryz.func64, Tryz.ntmps64
 by_cases hcc : c = 1
 · rw [if_pos hcc] at hA1
   subst hA1
   subst hcc
   obtain rfl : n = 1 := by omega
   clear q1 q2 q3 q4
   cases o with
   | none =>
     have HI : Hid (K = none) := Lib.hid (by
      rw [← HHK.out, HHO.out])
     go_wp2_with (go_at_call 105; refine HM1.out.mono ?_; rintro e w1 ⟨hb1, rfl⟩; have HR1 := Lib.hid (HRB.out.beneath hb1); have HB1 := Lib.hid (HBN.out.trans (hb1.mono HBN.out.size)); obtain ⟨z0, z1, z2, z3⟩ := HR1.out.four; have c1 : w1.cell? ⟨b, off, none⟩ = some (.string s) := (hb1.cell (p := ⟨b, off, none⟩) (by rw [World.size_alloc]; exact Nat.lt_succ_of_lt hb)).trans c0; have zz := HR1.out.free; clear hb1)
     have HE := Lib.hid (put_four HR1.out (.int .u8 0) (.int .i64 0) (.int .i64 0) (.slice none 0 0))
     have HBE := Lib.hid (up_four HB1.out (.int .u8 0) (.int .i64 0) (.int .i64 0) (.slice none 0 0))
     obtain ⟨q0, q1, q2, q3⟩ := HE.out.four
     exact bodyPost_ret (v := .tuple #[TyR.val ⟨0, 0, 0, none, 0, []⟩, .bool false]) (by simp [results, Tryz.results64, go_sem, TyR.val, q0, q1, q2, q3]) rfl ⟨HBE.out, ⟨0, 0, 0, none, 0, []⟩, by rw [HI.out]; rfl, by
      rw [HI.out]
      intro t ht
      cases ht⟩
   | some l =>
     have HLT : Hid (l.length = t.length) := Lib.hid (by rw [HHL.out l rfl, List.length_map])
     cases l with
     | nil =>
       have HI : Hid (K = none) := Lib.hid (by rw [← HHK.out, HHO.out])
       go_wp2_with (go_at_call 105; refine HM1.out.mono ?_; rintro e w1 ⟨hb1, Ai, ci, rfl, hown⟩; have HR1 := Lib.hid (HRB.out.beneath hb1); have HB1 := Lib.hid (HBN.out.trans (hb1.mono HBN.out.size)); have HO1 := Lib.hid (hown.more HBN.out.size); have hci := (own_hdr hown).1.cle; have hcf := (own_hdr hown).1.fit; obtain ⟨z0, z1, z2, z3⟩ := HR1.out.four; have c1 : w1.cell? ⟨b, off, none⟩ = some (.string s) := (hb1.cell (p := ⟨b, off, none⟩) (by rw [World.size_alloc]; exact Nat.lt_succ_of_lt hb)).trans c0; have zz := HR1.out.free; clear hb1 hown)
       have HE := Lib.hid (put_four HR1.out (.int .u8 0) (.int .i64 0) (.int .i64 0) (.slice none 0 0))
       have HBE := Lib.hid (up_four HB1.out (.int .u8 0) (.int .i64 0) (.int .i64 0) (.slice none 0 0))
       obtain ⟨q0, q1, q2, q3⟩ := HE.out.four
       exact bodyPost_ret (v := .tuple #[TyR.val ⟨0, 0, 0, none, 0, []⟩, .bool false]) (by simp [results, Tryz.results64, go_sem, TyR.val, q0, q1, q2, q3]) rfl ⟨HBE.out, ⟨0, 0, 0, none, 0, []⟩, by rw [HI.out]; rfl, by
        rw [HI.out]
        intro t ht
        cases ht⟩
     | cons m l2 =>
       have HI : Hid (K = some ⟨3, m, 0, l2⟩) := Lib.hid (by rw [← HHK.out, HHO.out])
       obtain ⟨ln, hln⟩ : ∃ ln, (m :: l2).length = ln := ⟨_, rfl⟩
       have hln2 : l2.length = ln - 1 := by rw [← hln]; rfl
       have hln0 : 0 < ln := by rw [← hln]; exact Nat.succ_pos _
       have q5 : ¬ (ln : Int) < 1 := by omega
       have q6 : (0 : Int) < ln := by omega
       have q7 : (1 : Int) ≤ ln := by omega
       have q8 : 1 ≤ ln := by omega
       have HLN := Lib.hid hln
       go_wp2_with (go_at_call 105; refine HM1.out.mono ?_; rintro e w1 ⟨hb1, Ai, ci, rfl, hown⟩; have HR1 := Lib.hid (HRB.out.beneath hb1); have HB1 := Lib.hid (HBN.out.trans (hb1.mono HBN.out.size)); have HO1 := Lib.hid (hown.more HBN.out.size); have hci := (own_hdr hown).1.cle; have hcf := (own_hdr hown).1.fit; obtain ⟨z0, z1, z2, z3⟩ := HR1.out.four; have c1 : w1.cell? ⟨b, off, none⟩ = some (.string s) := (hb1.cell (p := ⟨b, off, none⟩) (by rw [World.size_alloc]; exact Nat.lt_succ_of_lt hb)).trans c0; have zz := HR1.out.free; obtain ⟨bi, oi, ei, hbi, hi0⟩ := ints_first (own_hdr hown).2; have hcf : ln ≤ ci := by { rw [← hln]; exact hcf }; rw [hln] at hci; rw [hln] at HO1; rw [hln]; subst ei; clear hb1 hown; refine pause ?_)
       have HS1 := Lib.hid ((show OwnInts w1 w.heap.size (.slice (some ⟨bi, oi, none⟩) (m :: l2).length ci) (m :: l2) by rw [hln]; exact HO1.out).sub.cut1 (Nat.succ_pos _))
       clear hln
       by_cases hci1 : ci = 1
       · rw [if_pos hci1] at HS1
         have HS2 : Hid (SubInts w1 w.heap.size (some ⟨bi, oi, none⟩) 0 l2) := Lib.hid (by
          have h := HS1.out
          rw [hci1] at h
          exact h)
         clear HS1
         refine resume ?_
         go_wp2_with fail
         go_region
         go_wp2_with fail
         have HE := Lib.hid (put_four HR1.out (.int .u8 3) (.int .i64 m) (.int .i64 0) (.slice (some ⟨bi, oi, none⟩) (ln - 1) 0))
         have HBE := Lib.hid (up_four HB1.out (.int .u8 3) (.int .i64 m) (.int .i64 0) (.slice (some ⟨bi, oi, none⟩) (ln - 1) 0))
         obtain ⟨q0, q1, q2, q3⟩ := HE.out.drew.four
         exact bodyPost_ret (v := .tuple #[TyR.val ⟨3, m, 0, (some ⟨bi, oi, none⟩), 0, l2⟩, .bool true]) (by simp [results, Tryz.results64, go_sem, TyR.val, q0, q1, q2, q3, hln2]) rfl ⟨HBE.out.drew, ⟨3, m, 0, (some ⟨bi, oi, none⟩), 0, l2⟩, by rw [HI.out]; rfl, by
          rw [HI.out]
          intro t ht
          injection ht with ht; subst ht; exact ⟨rfl, (HS2.out.spare (spare_four HR1.out (.int .u8 3) (.int .i64 m) (.int .i64 0) (.slice (some ⟨bi, oi, none⟩) (ln - 1) 0)) (by decide)).drew, by show 3 ≤ 255; omega⟩⟩
       · rw [if_neg hci1] at HS1
         have HS2 : Hid (SubInts w1 w.heap.size (some ⟨bi, oi + 1, none⟩) (ci - 1) l2) := Lib.hid (by
          have h := HS1.out
          exact h)
         clear HS1
         refine resume ?_
         go_wp2_with fail
         go_region
         go_wp2_with fail
         have HE := Lib.hid (put_four HR1.out (.int .u8 3) (.int .i64 m) (.int .i64 0) (.slice (some ⟨bi, oi + 1, none⟩) (ln - 1) (ci - 1)))
         have HBE := Lib.hid (up_four HB1.out (.int .u8 3) (.int .i64 m) (.int .i64 0) (.slice (some ⟨bi, oi + 1, none⟩) (ln - 1) (ci - 1)))
         obtain ⟨q0, q1, q2, q3⟩ := HE.out.drew.four
         exact bodyPost_ret (v := .tuple #[TyR.val ⟨3, m, 0, (some ⟨bi, oi + 1, none⟩), (ci - 1), l2⟩, .bool true]) (by simp [results, Tryz.results64, go_sem, TyR.val, q0, q1, q2, q3, hln2]) rfl ⟨HBE.out.drew, ⟨3, m, 0, (some ⟨bi, oi + 1, none⟩), (ci - 1), l2⟩, by rw [HI.out]; rfl, by
          rw [HI.out]
          intro t ht
          injection ht with ht; subst ht; exact ⟨rfl, (HS2.out.spare (spare_four HR1.out (.int .u8 3) (.int .i64 m) (.int .i64 0) (.slice (some ⟨bi, oi + 1, none⟩) (ln - 1) (ci - 1))) (by decide)).drew, by show 3 ≤ 255; omega⟩⟩
 · rw [if_neg hcc] at hA1
   subst hA1
   cases o with
   | none =>
     have HI : Hid (K = none) := Lib.hid (by
      rw [← HHK.out, HHO.out])
     go_wp2_with (go_at_call 105; refine HM1.out.mono ?_; rintro e w1 ⟨hb1, rfl⟩; have HR1 := Lib.hid (HRB.out.beneath hb1); have HB1 := Lib.hid (HBN.out.trans (hb1.mono HBN.out.size)); obtain ⟨z0, z1, z2, z3⟩ := HR1.out.four; have c1 : w1.cell? ⟨b, off, none⟩ = some (.string s) := (hb1.cell (p := ⟨b, off, none⟩) (by rw [World.size_alloc]; exact Nat.lt_succ_of_lt hb)).trans c0; have zz := HR1.out.free; clear hb1)
     have HE := Lib.hid (put_four HR1.out (.int .u8 0) (.int .i64 0) (.int .i64 0) (.slice none 0 0))
     have HBE := Lib.hid (up_four HB1.out (.int .u8 0) (.int .i64 0) (.int .i64 0) (.slice none 0 0))
     obtain ⟨q0, q1, q2, q3⟩ := HE.out.four
     exact bodyPost_ret (v := .tuple #[TyR.val ⟨0, 0, 0, none, 0, []⟩, .bool false]) (by simp [results, Tryz.results64, go_sem, TyR.val, q0, q1, q2, q3]) rfl ⟨HBE.out, ⟨0, 0, 0, none, 0, []⟩, by rw [HI.out]; rfl, by
      rw [HI.out]
      intro t ht
      cases ht⟩
   | some l =>
     have HLT : Hid (l.length = t.length) := Lib.hid (by rw [HHL.out l rfl, List.length_map])
     cases l with
     | nil =>
       have HI : Hid (K = none) := Lib.hid (by rw [← HHK.out, HHO.out])
       go_wp2_with (go_at_call 105; refine HM1.out.mono ?_; rintro e w1 ⟨hb1, Ai, ci, rfl, hown⟩; have HR1 := Lib.hid (HRB.out.beneath hb1); have HB1 := Lib.hid (HBN.out.trans (hb1.mono HBN.out.size)); have HO1 := Lib.hid (hown.more HBN.out.size); have hci := (own_hdr hown).1.cle; have hcf := (own_hdr hown).1.fit; obtain ⟨z0, z1, z2, z3⟩ := HR1.out.four; have c1 : w1.cell? ⟨b, off, none⟩ = some (.string s) := (hb1.cell (p := ⟨b, off, none⟩) (by rw [World.size_alloc]; exact Nat.lt_succ_of_lt hb)).trans c0; have zz := HR1.out.free; clear hb1 hown)
       have HE := Lib.hid (put_four HR1.out (.int .u8 0) (.int .i64 0) (.int .i64 0) (.slice none 0 0))
       have HBE := Lib.hid (up_four HB1.out (.int .u8 0) (.int .i64 0) (.int .i64 0) (.slice none 0 0))
       obtain ⟨q0, q1, q2, q3⟩ := HE.out.four
       exact bodyPost_ret (v := .tuple #[TyR.val ⟨0, 0, 0, none, 0, []⟩, .bool false]) (by simp [results, Tryz.results64, go_sem, TyR.val, q0, q1, q2, q3]) rfl ⟨HBE.out, ⟨0, 0, 0, none, 0, []⟩, by rw [HI.out]; rfl, by
        rw [HI.out]
        intro t ht
        cases ht⟩
     | cons m l2 =>
       have HI : Hid (K = some ⟨3, m, 0, l2⟩) := Lib.hid (by rw [← HHK.out, HHO.out])
       obtain ⟨ln, hln⟩ : ∃ ln, (m :: l2).length = ln := ⟨_, rfl⟩
       have hln2 : l2.length = ln - 1 := by rw [← hln]; rfl
       have hln0 : 0 < ln := by rw [← hln]; exact Nat.succ_pos _
       have q5 : ¬ (ln : Int) < 1 := by omega
       have q6 : (0 : Int) < ln := by omega
       have q7 : (1 : Int) ≤ ln := by omega
       have q8 : 1 ≤ ln := by omega
       have HLN := Lib.hid hln
       go_wp2_with (go_at_call 105; refine HM1.out.mono ?_; rintro e w1 ⟨hb1, Ai, ci, rfl, hown⟩; have HR1 := Lib.hid (HRB.out.beneath hb1); have HB1 := Lib.hid (HBN.out.trans (hb1.mono HBN.out.size)); have HO1 := Lib.hid (hown.more HBN.out.size); have hci := (own_hdr hown).1.cle; have hcf := (own_hdr hown).1.fit; obtain ⟨z0, z1, z2, z3⟩ := HR1.out.four; have c1 : w1.cell? ⟨b, off, none⟩ = some (.string s) := (hb1.cell (p := ⟨b, off, none⟩) (by rw [World.size_alloc]; exact Nat.lt_succ_of_lt hb)).trans c0; have zz := HR1.out.free; obtain ⟨bi, oi, ei, hbi, hi0⟩ := ints_first (own_hdr hown).2; have hcf : ln ≤ ci := by { rw [← hln]; exact hcf }; rw [hln] at hci; rw [hln] at HO1; rw [hln]; subst ei; clear hb1 hown; refine pause ?_)
       have HS1 := Lib.hid ((show OwnInts w1 w.heap.size (.slice (some ⟨bi, oi, none⟩) (m :: l2).length ci) (m :: l2) by rw [hln]; exact HO1.out).sub.cut1 (Nat.succ_pos _))
       clear hln
       by_cases hci1 : ci = 1
       · rw [if_pos hci1] at HS1
         have HS2 : Hid (SubInts w1 w.heap.size (some ⟨bi, oi, none⟩) 0 l2) := Lib.hid (by
          have h := HS1.out
          rw [hci1] at h
          exact h)
         clear HS1
         refine resume ?_
         go_wp2_with fail
         go_region
         go_wp2_with fail
         have HE := Lib.hid (put_four HR1.out (.int .u8 3) (.int .i64 m) (.int .i64 0) (.slice (some ⟨bi, oi, none⟩) (ln - 1) 0))
         have HBE := Lib.hid (up_four HB1.out (.int .u8 3) (.int .i64 m) (.int .i64 0) (.slice (some ⟨bi, oi, none⟩) (ln - 1) 0))
         obtain ⟨q0, q1, q2, q3⟩ := HE.out.drew.four
         exact bodyPost_ret (v := .tuple #[TyR.val ⟨3, m, 0, (some ⟨bi, oi, none⟩), 0, l2⟩, .bool true]) (by simp [results, Tryz.results64, go_sem, TyR.val, q0, q1, q2, q3, hln2]) rfl ⟨HBE.out.drew, ⟨3, m, 0, (some ⟨bi, oi, none⟩), 0, l2⟩, by rw [HI.out]; rfl, by
          rw [HI.out]
          intro t ht
          injection ht with ht; subst ht; exact ⟨rfl, (HS2.out.spare (spare_four HR1.out (.int .u8 3) (.int .i64 m) (.int .i64 0) (.slice (some ⟨bi, oi, none⟩) (ln - 1) 0)) (by decide)).drew, by show 3 ≤ 255; omega⟩⟩
       · rw [if_neg hci1] at HS1
         have HS2 : Hid (SubInts w1 w.heap.size (some ⟨bi, oi + 1, none⟩) (ci - 1) l2) := Lib.hid (by
          have h := HS1.out
          exact h)
         clear HS1
         refine resume ?_
         go_wp2_with fail
         go_region
         go_wp2_with fail
         have HE := Lib.hid (put_four HR1.out (.int .u8 3) (.int .i64 m) (.int .i64 0) (.slice (some ⟨bi, oi + 1, none⟩) (ln - 1) (ci - 1)))
         have HBE := Lib.hid (up_four HB1.out (.int .u8 3) (.int .i64 m) (.int .i64 0) (.slice (some ⟨bi, oi + 1, none⟩) (ln - 1) (ci - 1)))
         obtain ⟨q0, q1, q2, q3⟩ := HE.out.drew.four
         exact bodyPost_ret (v := .tuple #[TyR.val ⟨3, m, 0, (some ⟨bi, oi + 1, none⟩), (ci - 1), l2⟩, .bool true]) (by simp [results, Tryz.results64, go_sem, TyR.val, q0, q1, q2, q3, hln2]) rfl ⟨HBE.out.drew, ⟨3, m, 0, (some ⟨bi, oi + 1, none⟩), (ci - 1), l2⟩, by rw [HI.out]; rfl, by
          rw [HI.out]
          intro t ht
          injection ht with ht; subst ht; exact ⟨rfl, (HS2.out.spare (spare_four HR1.out (.int .u8 3) (.int .i64 m) (.int .i64 0) (.slice (some ⟨bi, oi + 1, none⟩) (ln - 1) (ci - 1))) (by decide)).drew, by show 3 ≤ 255; omega⟩⟩
set_option maxRecDepth 100000 in
set_option maxHeartbeats 3200000 in
theorem rfkind_struct (hx : x.Ok w) (h64 : x.xs.length ≤ 20000) {s : ByteArray} {t : List ByteArray} (hxs : x.xs = s :: t) (na : ¬ toL s = bArray) (n0 : ¬ toL s = bInt) (n1 : ¬ toL s = bPtr) (n2 : ¬ toL s = bFn) (k3 : toL s = bStruct) : Calls Tryz.prog 64 #[.slice x.a x.xs.length x.c] w (RfKind w (kindP (toL s :: t.map toL))) := by
 have hx0 : 0 < x.xs.length := by rw [hxs]; exact Nat.succ_pos _
 have HM := Lib.hid (fun W (hb : Below w.heap.size w W) => rmarks_any (((hx.on hb).rest hx0).at_) 116 (by show (x.xs.drop 1).length ≤ 20000; rw [List.length_drop]; omega))
 have hdr : x.rest.data = t.map toL := by show (x.xs.drop 1).map toL = _; rw [hxs]; rfl
 rw [hdr, show ((116 : UInt8).toNat : Int) = 116 from rfl] at HM
 have hlen : x.rest.xs.length = x.xs.length - 1 := by show (x.xs.drop 1).length = _; rw [List.length_drop]
 rw [hlen] at HM
 obtain ⟨b, off, ha, hb, hc⟩ := hx.first2b hxs
 have hra : x.rest.a = if x.c = 1 then some ⟨b, off, none⟩ else some ⟨b, off + 1, none⟩ := by
  unfold LnR.rest
  rw [ha]
  rfl
 have hrc : x.rest.c = x.c - 1 := rfl
 rw [hra, hrc] at HM
 have hcle := hx.at_.hdr.cle
 have hfit : x.xs.length ≤ x.c := hx.at_.hdr.fit
 have HRB := Lib.hid (Blk.new w 78 #[.int .u8 0, .int .i64 0, .int .i64 0, .slice none 0 0])
 have HBN : Hid (Below w.heap.size w (w.alloc (.cells #[.int .u8 0, .int .i64 0, .int .i64 0, .slice none 0 0] 78))) := Lib.hid ((Below.refl _ _).alloc (Nat.le_refl _) _)
 have c0 : (w.alloc (.cells #[.int .u8 0, .int .i64 0, .int .i64 0, .slice none 0 0] 78)).cell? ⟨b, off, none⟩ = some (.string s) := (HBN.out.cell (p := ⟨b, off, none⟩) hb).trans hc
 have HM1 := Lib.hid (HM.out _ HBN.out)
 clear HM hdr hlen hra hrc hx hc
 obtain ⟨A, c, xs⟩ := x
 dsimp only at *
 subst ha
 obtain ⟨n, hn⟩ : ∃ n, xs.length = n := ⟨_, rfl⟩
 rw [hn] at HM1 hx0 hcle hfit ⊢
 have q1 : (0 : Int) < n := by omega
 have q2 : ¬ (n : Int) = 0 := by omega
 have q3 : (1 : Int) ≤ n := by omega
 have q4 : 1 ≤ n := by omega
 clear hn hxs
 obtain ⟨A1, hA1⟩ : ∃ A1, A1 = (if c = 1 then (some ⟨b, off, none⟩ : Option Addr) else some ⟨b, off + 1, none⟩) := ⟨_, rfl⟩
 rw [← hA1] at HM1
 obtain ⟨o, ho⟩ : ∃ o, marksP 116 (t.map toL) = o := ⟨_, rfl⟩
 rw [ho] at HM1
 have hml := fun l (h : o = some l) => marksP_len _ _ (ho.trans h)
 obtain ⟨K, hK⟩ : ∃ K, kindP (toL s :: t.map toL) = K := ⟨_, rfl⟩
 have hk := hK
 unfold kindP at hk
 dsimp only at hk
 rw [if_neg na] at hk
 rw [if_neg n0] at hk
 rw [if_neg n1] at hk
 rw [if_neg n2] at hk
 rw [if_pos k3] at hk
 rw [hK]
 have ea : (s.toList == [97, 114, 114, 97, 121]) = false := str_no na
 have e0 : (s.toList == [105, 110, 116]) = false := str_no n0
 have e1 : (s.toList == [112, 116, 114]) = false := str_no n1
 have e2 : (s.toList == [102, 110]) = false := str_no n2
 have e3 : (s.toList == [115, 116, 114, 117, 99, 116]) = true := str_yes k3
 clear hK na n0 n1 n2 k3
 have HHO := Lib.hid ho
 have HHK := Lib.hid hk
 have HHL := Lib.hid hml
 clear ho hk hml
 go_enter Tryz.func64, Tryz.ntmps64
 by_cases hcc : c = 1
 · rw [if_pos hcc] at hA1
   subst hA1
   subst hcc
   obtain rfl : n = 1 := by omega
   clear q1 q2 q3 q4
   cases o with
   | none =>
     have HI : Hid (K = none) := Lib.hid (by
      rw [← HHK.out, HHO.out]; rfl)
     go_wp2_with (go_at_call 105; refine HM1.out.mono ?_; rintro e w1 ⟨hb1, rfl⟩; have HR1 := Lib.hid (HRB.out.beneath hb1); have HB1 := Lib.hid (HBN.out.trans (hb1.mono HBN.out.size)); obtain ⟨z0, z1, z2, z3⟩ := HR1.out.four; have c1 : w1.cell? ⟨b, off, none⟩ = some (.string s) := (hb1.cell (p := ⟨b, off, none⟩) (by rw [World.size_alloc]; exact Nat.lt_succ_of_lt hb)).trans c0; have zz := HR1.out.free; clear hb1)
     have HE := Lib.hid (put_four HR1.out (.int .u8 4) (.int .i64 0) (.int .i64 0) (.slice none 0 0))
     have HBE := Lib.hid (up_four HB1.out (.int .u8 4) (.int .i64 0) (.int .i64 0) (.slice none 0 0))
     obtain ⟨q0, q1, q2, q3⟩ := HE.out.four
     exact bodyPost_ret (v := .tuple #[TyR.val ⟨4, 0, 0, none, 0, []⟩, .bool false]) (by simp [results, Tryz.results64, go_sem, TyR.val, q0, q1, q2, q3]) rfl ⟨HBE.out, ⟨4, 0, 0, none, 0, []⟩, by rw [HI.out]; rfl, by
      rw [HI.out]
      intro t ht
      cases ht⟩
   | some l =>
     have HLT : Hid (l.length = t.length) := Lib.hid (by rw [HHL.out l rfl, List.length_map])
     have HI : Hid (K = some ⟨4, 0, 0, l⟩) := Lib.hid (by rw [← HHK.out, HHO.out]; rfl)
     go_wp2_with (go_at_call 105; refine HM1.out.mono ?_; rintro e w1 ⟨hb1, Ai, ci, rfl, hown⟩; have HR1 := Lib.hid (HRB.out.beneath hb1); have HB1 := Lib.hid (HBN.out.trans (hb1.mono HBN.out.size)); have HO1 := Lib.hid (hown.more HBN.out.size); have hci := (own_hdr hown).1.cle; have hcf := (own_hdr hown).1.fit; obtain ⟨z0, z1, z2, z3⟩ := HR1.out.four; have c1 : w1.cell? ⟨b, off, none⟩ = some (.string s) := (hb1.cell (p := ⟨b, off, none⟩) (by rw [World.size_alloc]; exact Nat.lt_succ_of_lt hb)).trans c0; have zz := HR1.out.free; clear hb1 hown)
     have HE := Lib.hid (put_four HR1.out (.int .u8 4) (.int .i64 0) (.int .i64 0) (.slice Ai l.length ci))
     have HBE := Lib.hid (up_four HB1.out (.int .u8 4) (.int .i64 0) (.int .i64 0) (.slice Ai l.length ci))
     obtain ⟨q0, q1, q2, q3⟩ := HE.out.four
     exact bodyPost_ret (v := .tuple #[TyR.val ⟨4, 0, 0, Ai, ci, l⟩, .bool true]) (by simp [results, Tryz.results64, go_sem, TyR.val, q0, q1, q2, q3]) rfl ⟨HBE.out, ⟨4, 0, 0, Ai, ci, l⟩, by rw [HI.out]; rfl, by
      rw [HI.out]
      intro t ht
      injection ht with ht; subst ht; exact ⟨rfl, (OwnInts.sub (HO1.out.spare (spare_four HR1.out (.int .u8 4) (.int .i64 0) (.int .i64 0) (.slice Ai l.length ci)) (by decide))), by show 4 ≤ 255; omega⟩⟩
 · rw [if_neg hcc] at hA1
   subst hA1
   cases o with
   | none =>
     have HI : Hid (K = none) := Lib.hid (by
      rw [← HHK.out, HHO.out]; rfl)
     go_wp2_with (go_at_call 105; refine HM1.out.mono ?_; rintro e w1 ⟨hb1, rfl⟩; have HR1 := Lib.hid (HRB.out.beneath hb1); have HB1 := Lib.hid (HBN.out.trans (hb1.mono HBN.out.size)); obtain ⟨z0, z1, z2, z3⟩ := HR1.out.four; have c1 : w1.cell? ⟨b, off, none⟩ = some (.string s) := (hb1.cell (p := ⟨b, off, none⟩) (by rw [World.size_alloc]; exact Nat.lt_succ_of_lt hb)).trans c0; have zz := HR1.out.free; clear hb1)
     have HE := Lib.hid (put_four HR1.out (.int .u8 4) (.int .i64 0) (.int .i64 0) (.slice none 0 0))
     have HBE := Lib.hid (up_four HB1.out (.int .u8 4) (.int .i64 0) (.int .i64 0) (.slice none 0 0))
     obtain ⟨q0, q1, q2, q3⟩ := HE.out.four
     exact bodyPost_ret (v := .tuple #[TyR.val ⟨4, 0, 0, none, 0, []⟩, .bool false]) (by simp [results, Tryz.results64, go_sem, TyR.val, q0, q1, q2, q3]) rfl ⟨HBE.out, ⟨4, 0, 0, none, 0, []⟩, by rw [HI.out]; rfl, by
      rw [HI.out]
      intro t ht
      cases ht⟩
   | some l =>
     have HLT : Hid (l.length = t.length) := Lib.hid (by rw [HHL.out l rfl, List.length_map])
     have HI : Hid (K = some ⟨4, 0, 0, l⟩) := Lib.hid (by rw [← HHK.out, HHO.out]; rfl)
     go_wp2_with (go_at_call 105; refine HM1.out.mono ?_; rintro e w1 ⟨hb1, Ai, ci, rfl, hown⟩; have HR1 := Lib.hid (HRB.out.beneath hb1); have HB1 := Lib.hid (HBN.out.trans (hb1.mono HBN.out.size)); have HO1 := Lib.hid (hown.more HBN.out.size); have hci := (own_hdr hown).1.cle; have hcf := (own_hdr hown).1.fit; obtain ⟨z0, z1, z2, z3⟩ := HR1.out.four; have c1 : w1.cell? ⟨b, off, none⟩ = some (.string s) := (hb1.cell (p := ⟨b, off, none⟩) (by rw [World.size_alloc]; exact Nat.lt_succ_of_lt hb)).trans c0; have zz := HR1.out.free; clear hb1 hown)
     have HE := Lib.hid (put_four HR1.out (.int .u8 4) (.int .i64 0) (.int .i64 0) (.slice Ai l.length ci))
     have HBE := Lib.hid (up_four HB1.out (.int .u8 4) (.int .i64 0) (.int .i64 0) (.slice Ai l.length ci))
     obtain ⟨q0, q1, q2, q3⟩ := HE.out.four
     exact bodyPost_ret (v := .tuple #[TyR.val ⟨4, 0, 0, Ai, ci, l⟩, .bool true]) (by simp [results, Tryz.results64, go_sem, TyR.val, q0, q1, q2, q3]) rfl ⟨HBE.out, ⟨4, 0, 0, Ai, ci, l⟩, by rw [HI.out]; rfl, by
      rw [HI.out]
      intro t ht
      injection ht with ht; subst ht; exact ⟨rfl, (OwnInts.sub (HO1.out.spare (spare_four HR1.out (.int .u8 4) (.int .i64 0) (.int .i64 0) (.slice Ai l.length ci)) (by decide))), by show 4 ≤ 255; omega⟩⟩
set_option maxRecDepth 100000 in
set_option maxHeartbeats 3200000 in
theorem rfkind_other (hx : x.Ok w) (h64 : x.xs.length ≤ 20000) {s : ByteArray} {t : List ByteArray} (hxs : x.xs = s :: t) (na : ¬ toL s = bArray) (n0 : ¬ toL s = bInt) (n1 : ¬ toL s = bPtr) (n2 : ¬ toL s = bFn) (n3 : ¬ toL s = bStruct) : Calls Tryz.prog 64 #[.slice x.a x.xs.length x.c] w (RfKind w (kindP (toL s :: t.map toL))) := by
 have hx0 : 0 < x.xs.length := by rw [hxs]; exact Nat.succ_pos _
 have HM := Lib.hid (fun W (hb : Below w.heap.size w W) => rmarks_any (((hx.on hb).rest hx0).at_) 116 (by show (x.xs.drop 1).length ≤ 20000; rw [List.length_drop]; omega))
 have hdr : x.rest.data = t.map toL := by show (x.xs.drop 1).map toL = _; rw [hxs]; rfl
 rw [hdr, show ((116 : UInt8).toNat : Int) = 116 from rfl] at HM
 have hlen : x.rest.xs.length = x.xs.length - 1 := by show (x.xs.drop 1).length = _; rw [List.length_drop]
 rw [hlen] at HM
 obtain ⟨b, off, ha, hb, hc⟩ := hx.first2b hxs
 have hra : x.rest.a = if x.c = 1 then some ⟨b, off, none⟩ else some ⟨b, off + 1, none⟩ := by
  unfold LnR.rest
  rw [ha]
  rfl
 have hrc : x.rest.c = x.c - 1 := rfl
 rw [hra, hrc] at HM
 have hcle := hx.at_.hdr.cle
 have hfit : x.xs.length ≤ x.c := hx.at_.hdr.fit
 have HRB := Lib.hid (Blk.new w 78 #[.int .u8 0, .int .i64 0, .int .i64 0, .slice none 0 0])
 have HBN : Hid (Below w.heap.size w (w.alloc (.cells #[.int .u8 0, .int .i64 0, .int .i64 0, .slice none 0 0] 78))) := Lib.hid ((Below.refl _ _).alloc (Nat.le_refl _) _)
 have c0 : (w.alloc (.cells #[.int .u8 0, .int .i64 0, .int .i64 0, .slice none 0 0] 78)).cell? ⟨b, off, none⟩ = some (.string s) := (HBN.out.cell (p := ⟨b, off, none⟩) hb).trans hc
 have HM1 := Lib.hid (HM.out _ HBN.out)
 clear HM hdr hlen hra hrc hx hc
 obtain ⟨A, c, xs⟩ := x
 dsimp only at *
 subst ha
 obtain ⟨n, hn⟩ : ∃ n, xs.length = n := ⟨_, rfl⟩
 rw [hn] at HM1 hx0 hcle hfit ⊢
 have q1 : (0 : Int) < n := by omega
 have q2 : ¬ (n : Int) = 0 := by omega
 have q3 : (1 : Int) ≤ n := by omega
 have q4 : 1 ≤ n := by omega
 clear hn hxs
 obtain ⟨A1, hA1⟩ : ∃ A1, A1 = (if c = 1 then (some ⟨b, off, none⟩ : Option Addr) else some ⟨b, off + 1, none⟩) := ⟨_, rfl⟩
 rw [← hA1] at HM1
 obtain ⟨o, ho⟩ : ∃ o, marksP 116 (t.map toL) = o := ⟨_, rfl⟩
 rw [ho] at HM1
 have hml := fun l (h : o = some l) => marksP_len _ _ (ho.trans h)
 obtain ⟨K, hK⟩ : ∃ K, kindP (toL s :: t.map toL) = K := ⟨_, rfl⟩
 have hk := hK
 unfold kindP at hk
 dsimp only at hk
 rw [if_neg na] at hk
 rw [if_neg n0] at hk
 rw [if_neg n1] at hk
 rw [if_neg n2] at hk
 rw [if_neg n3] at hk
 rw [hK]
 have ea : (s.toList == [97, 114, 114, 97, 121]) = false := str_no na
 have e0 : (s.toList == [105, 110, 116]) = false := str_no n0
 have e1 : (s.toList == [112, 116, 114]) = false := str_no n1
 have e2 : (s.toList == [102, 110]) = false := str_no n2
 have e3 : (s.toList == [115, 116, 114, 117, 99, 116]) = false := str_no n3
 clear hK na n0 n1 n2 n3
 have HHO := Lib.hid ho
 have HHK := Lib.hid hk
 have HHL := Lib.hid hml
 clear ho hk hml
 go_enter Tryz.func64, Tryz.ntmps64
 by_cases hcc : c = 1
 · rw [if_pos hcc] at hA1
   subst hA1
   subst hcc
   obtain rfl : n = 1 := by omega
   clear q1 q2 q3 q4
   cases o with
   | none =>
     have HI : Hid (K = none) := Lib.hid (by
      exact HHK.out.symm)
     go_wp2_with (go_at_call 105; refine HM1.out.mono ?_; rintro e w1 ⟨hb1, rfl⟩; have HR1 := Lib.hid (HRB.out.beneath hb1); have HB1 := Lib.hid (HBN.out.trans (hb1.mono HBN.out.size)); obtain ⟨z0, z1, z2, z3⟩ := HR1.out.four; have c1 : w1.cell? ⟨b, off, none⟩ = some (.string s) := (hb1.cell (p := ⟨b, off, none⟩) (by rw [World.size_alloc]; exact Nat.lt_succ_of_lt hb)).trans c0; have zz := HR1.out.free; clear hb1)
     have HE := Lib.hid (put_four HR1.out (.int .u8 0) (.int .i64 0) (.int .i64 0) (.slice none 0 0))
     have HBE := Lib.hid (up_four HB1.out (.int .u8 0) (.int .i64 0) (.int .i64 0) (.slice none 0 0))
     obtain ⟨q0, q1, q2, q3⟩ := HE.out.four
     exact bodyPost_ret (v := .tuple #[TyR.val ⟨0, 0, 0, none, 0, []⟩, .bool false]) (by simp [results, Tryz.results64, go_sem, TyR.val, q0, q1, q2, q3]) rfl ⟨HBE.out, ⟨0, 0, 0, none, 0, []⟩, by rw [HI.out]; rfl, by
      rw [HI.out]
      intro t ht
      cases ht⟩
   | some l =>
     have HLT : Hid (l.length = t.length) := Lib.hid (by rw [HHL.out l rfl, List.length_map])
     have HI : Hid (K = none) := Lib.hid HHK.out.symm
     go_wp2_with (go_at_call 105; refine HM1.out.mono ?_; rintro e w1 ⟨hb1, Ai, ci, rfl, hown⟩; have HR1 := Lib.hid (HRB.out.beneath hb1); have HB1 := Lib.hid (HBN.out.trans (hb1.mono HBN.out.size)); have HO1 := Lib.hid (hown.more HBN.out.size); have hci := (own_hdr hown).1.cle; have hcf := (own_hdr hown).1.fit; obtain ⟨z0, z1, z2, z3⟩ := HR1.out.four; have c1 : w1.cell? ⟨b, off, none⟩ = some (.string s) := (hb1.cell (p := ⟨b, off, none⟩) (by rw [World.size_alloc]; exact Nat.lt_succ_of_lt hb)).trans c0; have zz := HR1.out.free; clear hb1 hown)
     have HE := Lib.hid (put_four HR1.out (.int .u8 0) (.int .i64 0) (.int .i64 0) (.slice none 0 0))
     have HBE := Lib.hid (up_four HB1.out (.int .u8 0) (.int .i64 0) (.int .i64 0) (.slice none 0 0))
     obtain ⟨q0, q1, q2, q3⟩ := HE.out.four
     exact bodyPost_ret (v := .tuple #[TyR.val ⟨0, 0, 0, none, 0, []⟩, .bool false]) (by simp [results, Tryz.results64, go_sem, TyR.val, q0, q1, q2, q3]) rfl ⟨HBE.out, ⟨0, 0, 0, none, 0, []⟩, by rw [HI.out]; rfl, by
      rw [HI.out]
      intro t ht
      cases ht⟩
 · rw [if_neg hcc] at hA1
   subst hA1
   cases o with
   | none =>
     have HI : Hid (K = none) := Lib.hid (by
      exact HHK.out.symm)
     go_wp2_with (go_at_call 105; refine HM1.out.mono ?_; rintro e w1 ⟨hb1, rfl⟩; have HR1 := Lib.hid (HRB.out.beneath hb1); have HB1 := Lib.hid (HBN.out.trans (hb1.mono HBN.out.size)); obtain ⟨z0, z1, z2, z3⟩ := HR1.out.four; have c1 : w1.cell? ⟨b, off, none⟩ = some (.string s) := (hb1.cell (p := ⟨b, off, none⟩) (by rw [World.size_alloc]; exact Nat.lt_succ_of_lt hb)).trans c0; have zz := HR1.out.free; clear hb1)
     have HE := Lib.hid (put_four HR1.out (.int .u8 0) (.int .i64 0) (.int .i64 0) (.slice none 0 0))
     have HBE := Lib.hid (up_four HB1.out (.int .u8 0) (.int .i64 0) (.int .i64 0) (.slice none 0 0))
     obtain ⟨q0, q1, q2, q3⟩ := HE.out.four
     exact bodyPost_ret (v := .tuple #[TyR.val ⟨0, 0, 0, none, 0, []⟩, .bool false]) (by simp [results, Tryz.results64, go_sem, TyR.val, q0, q1, q2, q3]) rfl ⟨HBE.out, ⟨0, 0, 0, none, 0, []⟩, by rw [HI.out]; rfl, by
      rw [HI.out]
      intro t ht
      cases ht⟩
   | some l =>
     have HLT : Hid (l.length = t.length) := Lib.hid (by rw [HHL.out l rfl, List.length_map])
     have HI : Hid (K = none) := Lib.hid HHK.out.symm
     go_wp2_with (go_at_call 105; refine HM1.out.mono ?_; rintro e w1 ⟨hb1, Ai, ci, rfl, hown⟩; have HR1 := Lib.hid (HRB.out.beneath hb1); have HB1 := Lib.hid (HBN.out.trans (hb1.mono HBN.out.size)); have HO1 := Lib.hid (hown.more HBN.out.size); have hci := (own_hdr hown).1.cle; have hcf := (own_hdr hown).1.fit; obtain ⟨z0, z1, z2, z3⟩ := HR1.out.four; have c1 : w1.cell? ⟨b, off, none⟩ = some (.string s) := (hb1.cell (p := ⟨b, off, none⟩) (by rw [World.size_alloc]; exact Nat.lt_succ_of_lt hb)).trans c0; have zz := HR1.out.free; clear hb1 hown)
     have HE := Lib.hid (put_four HR1.out (.int .u8 0) (.int .i64 0) (.int .i64 0) (.slice none 0 0))
     have HBE := Lib.hid (up_four HB1.out (.int .u8 0) (.int .i64 0) (.int .i64 0) (.slice none 0 0))
     obtain ⟨q0, q1, q2, q3⟩ := HE.out.four
     exact bodyPost_ret (v := .tuple #[TyR.val ⟨0, 0, 0, none, 0, []⟩, .bool false]) (by simp [results, Tryz.results64, go_sem, TyR.val, q0, q1, q2, q3]) rfl ⟨HBE.out, ⟨0, 0, 0, none, 0, []⟩, by rw [HI.out]; rfl, by
      rw [HI.out]
      intro t ht
      cases ht⟩
set_option maxRecDepth 100000 in
set_option maxHeartbeats 3200000 in
theorem rfkind_array (hx : x.Ok w) (h64 : x.xs.length ≤ 20000) {s : ByteArray} {t : List ByteArray} (hxs : x.xs = s :: t) (ya : toL s = bArray) : Calls Tryz.prog 64 #[.slice x.a x.xs.length x.c] w (RfKind w (kindP (toL s :: t.map toL))) := by
 have hx0 : 0 < x.xs.length := by rw [hxs]; exact Nat.succ_pos _
 have HRB := Lib.hid (Blk.new w 78 #[.int .u8 0, .int .i64 0, .int .i64 0, .slice none 0 0])
 have HBN : Hid (Below w.heap.size w (w.alloc (.cells #[.int .u8 0, .int .i64 0, .int .i64 0, .slice none 0 0] 78))) := Lib.hid ((Below.refl _ _).alloc (Nat.le_refl _) _)
 have ea : (s.toList == [97, 114, 114, 97, 121]) = true := str_yes ya
 by_cases hl : t.length = 2
 · obtain ⟨s1, s2, rfl⟩ : ∃ s1 s2, t = [s1, s2] := by
    match t, hl with
    | [a, b], _ => exact ⟨a, b, rfl⟩
   obtain ⟨A, c, xs⟩ := x
   dsimp only at *
   subst hxs
   obtain ⟨b, off, rfl, _, hb, hc⟩ := hx.at_.strs (Nat.succ_pos _)
   have c0 : (w.alloc (.cells #[.int .u8 0, .int .i64 0, .int .i64 0, .slice none 0 0] 78)).cell? ⟨b, off, none⟩ = some (.string s) := (HBN.out.cell (p := ⟨b, off, none⟩) hb).trans (hc 0 (show 0 < 3 by decide) 0 (by decide))
   have c1 : (w.alloc (.cells #[.int .u8 0, .int .i64 0, .int .i64 0, .slice none 0 0] 78)).cell? ⟨b, off + 1, none⟩ = some (.string s1) := (HBN.out.cell (p := ⟨b, off + 1, none⟩) hb).trans (hc 1 (show 1 < 3 by decide) 0 (by decide))
   have HC2 : Hid (w.cell? ⟨b, off + 2, none⟩ = some (.string s2)) := Lib.hid (hc 2 (show 2 < 3 by decide) 0 (by decide))
   have hK : kindP [toL s, toL s1, toL s2] = (match markP (toL s1) 116, smallP (toL s2) with
    | some n, some m => some ⟨5, n, m, []⟩
    | _, _ => none) := if_pos ya
   show Calls _ _ _ _ (RfKind w (kindP [toL s, toL s1, toL s2]))
   rw [hK]
   have HM := Lib.hid (fun W => rmark_is s1 116 W)
   have HS := Lib.hid (fun W => rsmall2_is s2 W)
   rw [show ((116 : UInt8).toNat : Int) = 116 from rfl] at HM
   obtain ⟨o1, ho1⟩ : ∃ o1, markP (toL s1) 116 = o1 := ⟨_, rfl⟩
   obtain ⟨o2, ho2⟩ : ∃ o2, smallP (toL s2) = o2 := ⟨_, rfl⟩
   rw [ho1] at HM ⊢
   rw [ho2] at HS ⊢
   have hcap : 3 ≤ c := hx.at_.hdr.fit
   have hcle : (3 : Nat) ≤ 9223372036854775807 := by decide
   clear hx hc hK ho1 ho2 ya hl h64 hx0 hcle
   show Calls _ _ #[.slice (some ⟨b, off, none⟩) 3 c] _ _
   go_enter Tryz.func64, Tryz.ntmps64
   cases o1 with
   | none =>
     cases o2 with
     | none =>
       dsimp only [Option.getD, errN] at HM HS
       have HI : Hid ((none : Option Ty) = (none : Option Ty)) := Lib.hid rfl
       go_wp2_with (first | (go_at_call 65; refine (HM.out _).mono ?_; rintro e w1 ⟨rfl, hb1⟩; have HR1 := Lib.hid (HRB.out.beneath hb1); have HB1 := Lib.hid (HBN.out.trans (hb1.mono HBN.out.size)); have c2 : w1.cell? ⟨b, off + 2, none⟩ = some (.string s2) := (HB1.out.cell (p := ⟨b, off + 2, none⟩) hb).trans HC2.out; clear hb1) | (go_at_call 104; refine (HS.out _).mono ?_; rintro e w2 ⟨rfl, hb2⟩; have HR2 := Lib.hid (HR1.out.beneath hb2); have HB2 := Lib.hid (HB1.out.trans (hb2.mono HB1.out.size)); obtain ⟨z0, z1, z2, z3⟩ := HR2.out.four; have zz := HR2.out.free; clear hb2))
       have HE := Lib.hid (put_four HR2.out (.int .u8 5) (.int .i64 0) (.int .i64 0) (.slice none 0 0))
       have HBE := Lib.hid (up_four HB2.out (.int .u8 5) (.int .i64 0) (.int .i64 0) (.slice none 0 0))
       obtain ⟨q0, q1, q2, q3⟩ := HE.out.four
       exact bodyPost_ret (v := .tuple #[TyR.val ⟨5, 0, 0, none, 0, []⟩, .bool false]) (by simp [results, Tryz.results64, go_sem, TyR.val, q0, q1, q2, q3]) rfl ⟨HBE.out, ⟨5, 0, 0, none, 0, []⟩, rfl, by
        intro t ht
        cases ht⟩
     | some m =>
       dsimp only [Option.getD, errN] at HM HS
       have HI : Hid ((none : Option Ty) = (none : Option Ty)) := Lib.hid rfl
       go_wp2_with (first | (go_at_call 65; refine (HM.out _).mono ?_; rintro e w1 ⟨rfl, hb1⟩; have HR1 := Lib.hid (HRB.out.beneath hb1); have HB1 := Lib.hid (HBN.out.trans (hb1.mono HBN.out.size)); have c2 : w1.cell? ⟨b, off + 2, none⟩ = some (.string s2) := (HB1.out.cell (p := ⟨b, off + 2, none⟩) hb).trans HC2.out; clear hb1) | (go_at_call 104; refine (HS.out _).mono ?_; rintro e w2 ⟨rfl, hb2⟩; have HR2 := Lib.hid (HR1.out.beneath hb2); have HB2 := Lib.hid (HB1.out.trans (hb2.mono HB1.out.size)); obtain ⟨z0, z1, z2, z3⟩ := HR2.out.four; have zz := HR2.out.free; clear hb2))
       have HE := Lib.hid (put_four HR2.out (.int .u8 5) (.int .i64 0) (.int .i64 m) (.slice none 0 0))
       have HBE := Lib.hid (up_four HB2.out (.int .u8 5) (.int .i64 0) (.int .i64 m) (.slice none 0 0))
       obtain ⟨q0, q1, q2, q3⟩ := HE.out.four
       exact bodyPost_ret (v := .tuple #[TyR.val ⟨5, 0, m, none, 0, []⟩, .bool false]) (by simp [results, Tryz.results64, go_sem, TyR.val, q0, q1, q2, q3]) rfl ⟨HBE.out, ⟨5, 0, m, none, 0, []⟩, rfl, by
        intro t ht
        cases ht⟩
   | some n =>
     cases o2 with
     | none =>
       dsimp only [Option.getD, errN] at HM HS
       have HI : Hid ((none : Option Ty) = (none : Option Ty)) := Lib.hid rfl
       go_wp2_with (first | (go_at_call 65; refine (HM.out _).mono ?_; rintro e w1 ⟨rfl, hb1⟩; have HR1 := Lib.hid (HRB.out.beneath hb1); have HB1 := Lib.hid (HBN.out.trans (hb1.mono HBN.out.size)); have c2 : w1.cell? ⟨b, off + 2, none⟩ = some (.string s2) := (HB1.out.cell (p := ⟨b, off + 2, none⟩) hb).trans HC2.out; clear hb1) | (go_at_call 104; refine (HS.out _).mono ?_; rintro e w2 ⟨rfl, hb2⟩; have HR2 := Lib.hid (HR1.out.beneath hb2); have HB2 := Lib.hid (HB1.out.trans (hb2.mono HB1.out.size)); obtain ⟨z0, z1, z2, z3⟩ := HR2.out.four; have zz := HR2.out.free; clear hb2))
       have HE := Lib.hid (put_four HR2.out (.int .u8 5) (.int .i64 n) (.int .i64 0) (.slice none 0 0))
       have HBE := Lib.hid (up_four HB2.out (.int .u8 5) (.int .i64 n) (.int .i64 0) (.slice none 0 0))
       obtain ⟨q0, q1, q2, q3⟩ := HE.out.four
       exact bodyPost_ret (v := .tuple #[TyR.val ⟨5, n, 0, none, 0, []⟩, .bool false]) (by simp [results, Tryz.results64, go_sem, TyR.val, q0, q1, q2, q3]) rfl ⟨HBE.out, ⟨5, n, 0, none, 0, []⟩, rfl, by
        intro t ht
        cases ht⟩
     | some m =>
       dsimp only [Option.getD, errN] at HM HS
       have HI : Hid ((some ⟨5, n, m, []⟩ : Option Ty) = (some ⟨5, n, m, []⟩ : Option Ty)) := Lib.hid rfl
       go_wp2_with (first | (go_at_call 65; refine (HM.out _).mono ?_; rintro e w1 ⟨rfl, hb1⟩; have HR1 := Lib.hid (HRB.out.beneath hb1); have HB1 := Lib.hid (HBN.out.trans (hb1.mono HBN.out.size)); have c2 : w1.cell? ⟨b, off + 2, none⟩ = some (.string s2) := (HB1.out.cell (p := ⟨b, off + 2, none⟩) hb).trans HC2.out; clear hb1) | (go_at_call 104; refine (HS.out _).mono ?_; rintro e w2 ⟨rfl, hb2⟩; have HR2 := Lib.hid (HR1.out.beneath hb2); have HB2 := Lib.hid (HB1.out.trans (hb2.mono HB1.out.size)); obtain ⟨z0, z1, z2, z3⟩ := HR2.out.four; have zz := HR2.out.free; clear hb2))
       have HE := Lib.hid (put_four HR2.out (.int .u8 5) (.int .i64 n) (.int .i64 m) (.slice none 0 0))
       have HBE := Lib.hid (up_four HB2.out (.int .u8 5) (.int .i64 n) (.int .i64 m) (.slice none 0 0))
       obtain ⟨q0, q1, q2, q3⟩ := HE.out.four
       exact bodyPost_ret (v := .tuple #[TyR.val ⟨5, n, m, none, 0, []⟩, .bool true]) (by simp [results, Tryz.results64, go_sem, TyR.val, q0, q1, q2, q3]) rfl ⟨HBE.out, ⟨5, n, m, none, 0, []⟩, rfl, by
        intro t ht
        injection ht with ht; subst ht; exact ⟨rfl, SubInts.nought _ _, by show 5 ≤ 255; omega⟩⟩
 · have hK : kindP (toL s :: t.map toL) = none := (if_pos ya).trans (by
    match t, hl with
    | [], _ => rfl
    | [_], _ => rfl
    | [_, _], hl => exact absurd rfl hl
    | _ :: _ :: _ :: _, _ => rfl)
   rw [hK]
   obtain ⟨b, off, ha, hb, hc⟩ := hx.first2b hxs
   have c0 : (w.alloc (.cells #[.int .u8 0, .int .i64 0, .int .i64 0, .slice none 0 0] 78)).cell? ⟨b, off, none⟩ = some (.string s) := (HBN.out.cell (p := ⟨b, off, none⟩) hb).trans hc
   have hfit : x.xs.length ≤ x.c := hx.at_.hdr.fit
   have hn3 : ¬ x.xs.length = 3 := by rw [hxs]; intro h; exact hl (Nat.succ.inj h)
   clear hx hc
   obtain ⟨A, c, xs⟩ := x
   dsimp only at *
   subst ha
   obtain ⟨n, hn⟩ : ∃ n, xs.length = n := ⟨_, rfl⟩
   rw [hn] at hx0 hfit hn3 h64 ⊢
   have q1 : (0 : Int) < n := by omega
   have q2 : ¬ (n : Int) = 0 := by omega
   have q3 : ((n : Int) != 3) = true := by rw [bne_iff_ne]; omega
   have q4 : ¬ (n : Int) = 3 := by omega
   clear hn hxs hK ya hl hn3
   go_enter Tryz.func64, Tryz.ntmps64
   go_wp2_with fail
   obtain ⟨q0, q1, q2, q3⟩ := HRB.out.four
   exact bodyPost_ret (v := .tuple #[TyR.val ⟨0, 0, 0, none, 0, []⟩, .bool false]) (by simp [results, Tryz.results64, go_sem, TyR.val, q0, q1, q2, q3]) rfl ⟨HBN.out, ⟨0, 0, 0, none, 0, []⟩, rfl, by
    intro t ht
    cases ht⟩
set_option maxRecDepth 100000 in
set_option maxHeartbeats 3200000 in
theorem rfkind_nil (hx : x.Ok w) (hxs : x.xs = []) : Calls Tryz.prog 64 #[.slice x.a x.xs.length x.c] w (RfKind w none) := by
 have HRB := Lib.hid (Blk.new w 78 #[.int .u8 0, .int .i64 0, .int .i64 0, .slice none 0 0])
 have HBN : Hid (Below w.heap.size w (w.alloc (.cells #[.int .u8 0, .int .i64 0, .int .i64 0, .slice none 0 0] 78))) := Lib.hid ((Below.refl _ _).alloc (Nat.le_refl _) _)
 obtain ⟨A, c, xs⟩ := x
 dsimp only at *
 subst hxs
 show Calls _ _ #[.slice A 0 c] _ _
 clear hx
 go_enter Tryz.func64, Tryz.ntmps64
 go_wp2_with fail
 obtain ⟨q0, q1, q2, q3⟩ := HRB.out.four
 exact bodyPost_ret (v := .tuple #[TyR.val ⟨0, 0, 0, none, 0, []⟩, .bool false]) (by simp [results, Tryz.results64, go_sem, TyR.val, q0, q1, q2, q3]) rfl ⟨HBN.out, ⟨0, 0, 0, none, 0, []⟩, rfl, by
  intro t ht
  cases ht⟩
theorem rkind7_any (hx : x.Ok w) (h64 : x.xs.length ≤ 20000) : Calls Tryz.prog 64 #[.slice x.a x.xs.length x.c] w (RfKind w (kindP x.data)) := by
 obtain ⟨xs, hxs⟩ : ∃ xs, x.xs = xs := ⟨_, rfl⟩
 have hd : x.data = xs.map toL := by show x.xs.map toL = _; rw [hxs]
 rw [hd]
 cases xs with
 | nil => exact rfkind_nil hx hxs
 | cons s t =>
   show Calls _ _ _ _ (RfKind w (kindP (toL s :: t.map toL)))
   by_cases ya : toL s = bArray
   · exact rfkind_array hx h64 hxs ya
   · by_cases k0 : toL s = bInt
     · exact rfkind_int hx h64 hxs ya k0
     · by_cases k1 : toL s = bPtr
       · exact rfkind_ptr hx h64 hxs ya k0 k1
       · by_cases k2 : toL s = bFn
         · exact rfkind_fn hx h64 hxs ya k0 k1 k2
         · by_cases k3 : toL s = bStruct
           · exact rfkind_struct hx h64 hxs ya k0 k1 k2 k3
           · exact rfkind_other hx h64 hxs ya k0 k1 k2 k3
end
end Go.Proofs.YtbffebcjimhapaaGreatDoor
