/-
  The reference's words of a line.
-/
import Derived.Test.YtbkgcikhiomenaaLexRef1
import Derived.Lib.ConvBytes
import Derived.Laws.IdiomStrings
namespace Go.Proofs.Ytbkgcikhiomenaa
set_option linter.unusedVariables false
set_option linter.unusedSimpArgs false
open Go.ChangeShapes Go.WideShapes Go.ChangeAt Go.RowKit

/-- Bytes that lie in a block, none of them frozen. -/
structure BtsAt (w : World) (g : Nat) (l : Bs) : Prop where
  lt : g < w.heap.size
  cell : ∀ j, j < l.length → w.cell? ⟨g, j, none⟩ = some (.int .u8 (l.getD j 0).toNat)
  free : ∀ j, j < l.length → w.frozen? ⟨g, j, none⟩ = false
theorem BtsAt.on {w w' : World} {g : Nat} {l : Bs} (h : BtsAt w g l) (hb : Below w.heap.size w w') : BtsAt w' g l :=
  ⟨Nat.lt_of_lt_of_le h.lt hb.size, fun j hj => (hb.cell (p := ⟨g, j, none⟩) h.lt).trans (h.cell j hj), fun j hj => (World.frozen?_of_block (hb.block g h.lt)).trans (h.free j hj)⟩
theorem BtsAt.put {w : World} {g : Nat} {l : Bs} (h : BtsAt w g l) {k : Nat} (hk : k < l.length) (c : UInt8) : BtsAt (w.setCell ⟨g, k, none⟩ (.int .u8 c.toNat)) g (l.set k c) := by
  refine ⟨by rw [show (w.setCell ⟨g, k, none⟩ (.int .u8 c.toNat)).heap.size = w.heap.size by simp [World.setCell]]; exact h.lt, fun j hj => ?_, fun j hj => ?_⟩
  · rw [List.length_set] at hj
    by_cases e : j = k
    · subst e
      rw [World.cell?_setCell_same w _ _ (h.cell j hj)]
      simp [List.getD, hj]
    · rw [World.cell?_setCell_other _ _ _ _ (fun e2 => e (by injection e2 with _ e2 _; exact e2.symm)), h.cell j hj]
      have e3 : ¬ k = j := fun e4 => e e4.symm
      simp [List.getD, List.getElem?_set, e3]
  · rw [List.length_set] at hj
    have := h.free j hj
    simpa [World.frozen?_setCell] using this
theorem bytes_below (w : World) (e : TypeId) (s : ByteArray) : Below w.heap.size w (Lib.bytesWorld w e s) := by
  have h : Below w.heap.size w (w.drew.alloc (.cells (Lib.bytesCells w e s) e)) := ((Below.refl _ _).drew).alloc (Nat.le_refl _) _
  exact ⟨h.os, h.tape, h.output, by rw [Lib.bytesWorld_size]; omega, fun k hk => Lib.bytesWorld_at_old w e s k hk⟩
theorem bytes_at (w : World) (e : TypeId) (s : ByteArray) : BtsAt (Lib.bytesWorld w e s) w.heap.size (toL s) := by
  refine ⟨by rw [Lib.bytesWorld_size]; omega, fun j hj => ?_, fun j hj => ?_⟩
  · rw [toL_size] at hj
    exact Lib.bytesWorld_cell w e s j hj
  · rw [toL_size] at hj
    have hlt : j < (Lib.bytesCells w e s).size := by
      simp [Lib.bytesCells]
      have : s.data.size = s.size := rfl
      omega
    simp [World.frozen?, Lib.bytesWorld_at_new]
    omega
/-- Some bytes being turned. -/
def turned (l : Bs) (k : Nat) : Bs := spaced (l.take k) ++ l.drop k
theorem turned_len (l : Bs) (k : Nat) : (turned l k).length = l.length := by
  unfold turned spaced
  rw [List.length_append, List.length_map, List.length_take, List.length_drop]
  omega
theorem turned_at (l : Bs) {k : Nat} (h : k < l.length) : (turned l k).getD k 0 = l.getD k 0 := by
  unfold turned spaced
  rw [List.getD_eq_getElem?_getD, List.getElem?_append_right (by rw [List.length_map, List.length_take]; omega), List.length_map, List.length_take, List.getElem?_drop, show k + (k - min k l.length) = k by omega, List.getD_eq_getElem?_getD]
theorem turned_on (l : Bs) {k : Nat} (h : k < l.length) : turned l (k + 1) = (turned l k).set k (if l.getD k 0 = 9 ∨ l.getD k 0 = 13 then 32 else l.getD k 0) := by
  unfold turned
  have hd : l.drop k = l[k] :: l.drop (k + 1) := List.drop_eq_getElem_cons h
  have ht : l.take (k + 1) = l.take k ++ [l[k]] := by rw [List.take_add_one, List.getElem?_eq_getElem h]; rfl
  have hg : l.getD k 0 = l[k] := by rw [List.getD_eq_getElem?_getD, List.getElem?_eq_getElem h]; rfl
  rw [hd, ht, hg]
  unfold spaced
  rw [List.map_append, List.set_append_right _ _ (by rw [List.length_map, List.length_take]; omega), List.length_map, List.length_take, show k - min k l.length = 0 by omega, List.append_assoc]
  rfl
theorem turned_all (l : Bs) : turned l l.length = spaced l := by
  unfold turned
  rw [List.take_length, List.drop_length, List.append_nil]
theorem turned_zero (l : Bs) : turned l 0 = l := by unfold turned spaced; simp
theorem beq_nat {a b : UInt8} (h : a ≠ b) : ((a.toNat : Int) == (b.toNat : Int)) = false := by
  rw [beq_eq_false_iff_ne]
  intro e
  exact h (UInt8.toNat_inj.1 (by omega))
theorem head_of {xs : List ByteArray} {m : List Bs} (h : xs.map toL = m) (hn : 0 < xs.length) : toL (xs.getD 0 ⟨#[]⟩) = m.headD [] := by
  subst h
  match xs, hn with
  | x :: r, _ => rfl
theorem cut_pos (x : UInt8) (s : Bs) : 0 < (cutB x s).length := by rw [cut_head]; exact Nat.succ_pos _
theorem cut_small (x : UInt8) : ∀ s : Bs, (cutB x s).length ≤ s.length + 1 ∧ ∀ l ∈ cutB x s, l.length ≤ s.length
  | [] => ⟨Nat.le_refl _, fun l hl => by rw [List.mem_singleton.1 hl]; exact Nat.zero_le _⟩
  | c :: t => by
    obtain ⟨h1, h2⟩ := cut_small x t
    by_cases h : c = x
    · subst h
      rw [cut_at]
      refine ⟨by simp only [List.length_cons]; omega, fun l hl => ?_⟩
      rcases List.mem_cons.1 hl with rfl | hl
      · exact Nat.zero_le _
      · have := h2 l hl; simp only [List.length_cons]; omega
    · rw [cut_on h]
      rw [cut_head x t] at h1 h2
      refine ⟨by simp only [List.length_cons] at h1 ⊢; omega, fun l hl => ?_⟩
      rcases List.mem_cons.1 hl with rfl | hl
      · have := h2 _ (List.mem_cons_self ..); simp only [List.length_cons]; omega
      · have := h2 l (List.mem_cons_of_mem _ hl); simp only [List.length_cons]; omega
theorem set_same (l : Bs) {k : Nat} (h : k < l.length) : l.set k (l.getD k 0) = l := by
  rw [List.getD_eq_getElem?_getD, List.getElem?_eq_getElem h]
  exact List.set_getElem_self h
theorem toL_mk (l : Bs) : toL ⟨l.toArray⟩ = l := rfl
theorem spaced_len (l : Bs) : (spaced l).length = l.length := List.length_map _
/-- The words that are some. -/
def some_ (l : List Bs) : List Bs := l.filter fun w => !w.isEmpty
theorem some_on {xs : List ByteArray} {k : Nat} {x : ByteArray} (h : k < xs.length) (e : xs.getD k ⟨#[]⟩ = x) : some_ ((xs.take (k + 1)).map toL) = some_ ((xs.take k).map toL) ++ if x = ⟨#[]⟩ then [] else [toL x] := by
  have hx : xs[k] = x := by rw [← e, List.getD_eq_getElem?_getD, List.getElem?_eq_getElem h]; rfl
  rw [List.take_add_one, List.getElem?_eq_getElem h, hx]
  unfold some_
  rw [List.map_append, List.filter_append]
  congr 1
  by_cases h0 : x = ⟨#[]⟩
  · rw [if_pos h0, h0]; rfl
  · rw [if_neg h0]
    show ([toL x].filter fun w => !w.isEmpty) = [toL x]
    rw [List.filter_cons, if_pos]
    · rfl
    · cases ht : toL x with
      | nil => exact absurd (toL_inj (t := ⟨#[]⟩) ht) h0
      | cons a l => rfl
set_option maxRecDepth 100000 in
set_option maxHeartbeats 3200000 in
theorem words_any (s : ByteArray) (hs : s.size ≤ 90000) (w : World) : Calls Try.prog 23 #[.string s] w (SomeStrs (wordsR (toL s)) w) := by
  go_enter Try.func23, Try.ntmps23
  go_wp2_with fail
  refine (cut_any s 35 (by omega) w).mono ?_
  rintro e w1 ⟨v1, xs1, rfl, hown1, hm1, hb1⟩
  have hn1 : 0 < xs1.length := by
    have := congrArg List.length hm1
    rw [List.length_map] at this
    have := cut_pos 35 (toL s)
    omega
  have HX0 := Lib.hid (head_of hm1 hn1)
  obtain ⟨A1, c1, rfl, hh1, hs1⟩ := hown1.full
  obtain ⟨b1, o1, x0, rfl, hbl1, d0, HE0⟩ := hs1.elem hn1
  rw [HE0.out] at HX0
  have hsz0 : x0.size ≤ 90000 := by
    have h1 := (cut_small 35 (toL s)).2 (toL x0) (by rw [HX0.out, cut_head 35 (toL s)]; exact List.mem_cons_self ..)
    rw [toL_size, toL_size] at h1
    omega
  have HQ1 := Lib.hid hb1
  have hconv := Lib.run_convert_string_bytes (P := Try.prog) w1 9 35 5 x0 Try.underlying9 Try.underlying35 Try.underlying5
  have hBW := bytes_below w1 5 x0
  have hBA := bytes_at w1 5 x0
  generalize Lib.bytesWorld w1 5 x0 = W at hconv hBW hBA
  generalize grownCap w1 x0.size 0 5 = cap at hconv
  have HBW := Lib.hid hBW
  have HBA := Lib.hid hBA
  have hne1 : (0 : Int) < (xs1.length : Int) := by omega
  clear hm1 hown1 hh1 hs1 hb1 hBW hBA
  rw [Nat.add_zero] at d0
  obtain ⟨l, hl⟩ : ∃ l, toL x0 = l := ⟨_, rfl⟩
  rw [hl] at HX0 HBA
  have HLN : Hid (l.length = x0.size) := Lib.hid (by rw [← hl, toL_size])
  clear hl
  go_wp2_with fail
  clear hconv d0 hne1
  go_loopw [4] (fun i wr => ∃ k : Nat, k ≤ x0.size ∧ i = .int .i64 k ∧ Hid (BtsAt wr w1.heap.size (turned l k)) ∧ Hid (Below w1.heap.size w1 wr)) (fun i _ => x0.size - (intOf i).toNat)
  case atStart => exact ⟨0, Nat.zero_le _, rfl, Lib.hid (by rw [turned_zero]; exact HBA.out), HBW⟩
  case round =>
    obtain ⟨k, hk, rfl, HT, HB⟩ := hrel
    by_cases hlt : k < x0.size
    · have hkl : k < l.length := by rw [HLN.out]; exact hlt
      have hkt : k < (turned l k).length := by rw [turned_len]; exact hkl
      have d0 := HT.out.cell k hkt
      have f0 := HT.out.free k hkt
      have HG := Lib.hid (turned_at l hkl)
      rw [HG.out] at d0
      have HON := Lib.hid (turned_on l hkl)
      have HKT := Lib.hid hkt
      generalize l.getD k 0 = ch at d0 HON HG
      clear hkl hkt
      by_cases h9 : ch = 9
      · subst h9
        have d1 : wr.cell? ⟨w1.heap.size, k, none⟩ = some (.int .u8 9) := d0
        clear d0
        have HP : Hid (BtsAt (wr.setCell ⟨w1.heap.size, k, none⟩ (.int .u8 32)) w1.heap.size (turned l (k + 1))) := Lib.hid (by rw [HON.out, if_pos (.inl rfl)]; exact HT.out.put HKT.out 32)
        go_wp2_with fail
        go_roundw
        case rel => exact ⟨k + 1, by omega, by go_num, HP, Lib.hid (HB.out.setCell (Nat.le_refl _) _)⟩
        case measure => simp [intOf]; omega
      · by_cases h13 : ch = 13
        · subst h13
          have d1 : wr.cell? ⟨w1.heap.size, k, none⟩ = some (.int .u8 13) := d0
          clear d0 h9
          have HP : Hid (BtsAt (wr.setCell ⟨w1.heap.size, k, none⟩ (.int .u8 32)) w1.heap.size (turned l (k + 1))) := Lib.hid (by rw [HON.out, if_pos (.inr rfl)]; exact HT.out.put HKT.out 32)
          go_wp2_with fail
          go_roundw
          case rel => exact ⟨k + 1, by omega, by go_num, HP, Lib.hid (HB.out.setCell (Nat.le_refl _) _)⟩
          case measure => simp [intOf]; omega
        · have hq9 : ((ch.toNat : Int) == 9) = false := beq_nat h9
          have hq13 : ((ch.toNat : Int) == 13) = false := beq_nat h13
          have HP : Hid (BtsAt wr w1.heap.size (turned l (k + 1))) := Lib.hid (by
            rw [HON.out, if_neg (by rintro (h | h); exact h9 h; exact h13 h), ← HG.out, set_same _ HKT.out]
            exact HT.out)
          clear h9 h13
          go_wp2_with fail
          go_roundw
          case rel => exact ⟨k + 1, by omega, by go_num, HP, HB⟩
          case measure => simp [intOf]; omega
    · obtain rfl : k = x0.size := by omega
      have hT := HT.out
      rw [← HLN.out, turned_all] at hT
      have hback := run_convert_bytes_back (P := Try.prog) wr 35 9 5 ⟨w1.heap.size, 0, none⟩ cap (spaced l) Try.underlying35 Try.underlying5 Try.underlying9 (fun j hj => by
        rw [add_lit, Nat.zero_add, hT.cell j hj, List.getD_eq_getElem?_getD, List.getElem?_eq_getElem hj]
        rfl)
      rw [spaced_len, HLN.out] at hback
      obtain ⟨y0, hy0⟩ : ∃ y : ByteArray, (⟨(spaced l).toArray⟩ : ByteArray) = y := ⟨_, rfl⟩
      rw [hy0] at hback
      have HY : Hid (toL y0 = spaced l) := Lib.hid (by rw [← hy0]; exact toL_mk _)
      have hys : y0.size ≤ 90000 := by rw [← toL_size, HY.out, spaced_len, HLN.out]; exact hsz0
      clear hT hy0
      go_wp2_with fail
      refine (cut_any y0 32 (by omega) wr).mono ?_
      clear hback
      rintro e w3 ⟨v3, xs3, rfl, hown3, hm3, hb3⟩
      obtain ⟨A3, c3, rfl, hh3, hs3⟩ := hown3.full
      have HS3 := Lib.hid hs3
      have HM3 := Lib.hid hm3
      have HQ3 := Lib.hid (HQ1.out.trans ((HB.out.trans (hb3.mono HB.out.size)).mono HQ1.out.size))
      have hl3 : xs3.length ≤ 100000 := by
        have h1 := (cut_small 32 (toL y0)).1
        rw [← hm3, List.length_map, toL_size] at h1
        omega
      clear hown3 hm3 hb3 hh3 hs3
      go_wp2_with fail
      go_loopw [5, 7] (fun v i wx => ∃ (j : Nat) (acc : List ByteArray), j ≤ xs3.length ∧ acc.length ≤ j ∧ i = .int .i64 j ∧ Hid (OwnStrs wx w3.heap.size v acc) ∧ Hid (acc.map toL = some_ ((xs3.take j).map toL)) ∧ Hid (Below w3.heap.size w3 wx) ∧ Hid (Below w.heap.size w wx)) (fun _ i _ => xs3.length - (intOf i).toNat)
      case atStart => exact ⟨0, [], Nat.zero_le _, Nat.zero_le _, rfl, Lib.hid (OwnStrs.nil _ _), Lib.hid rfl, Lib.hid (Below.refl _ _), HQ3⟩
      case round =>
        obtain ⟨j, acc, hj, hal, rfl, HO, HF, HBX, HQX⟩ := hrel
        by_cases hjl : j < xs3.length
        · obtain ⟨b2, o2, x, rfl, hb2, d0, HE⟩ := (HS3.out.on HBX.out).elem hjl
          have HON := Lib.hid (some_on hjl HE.out)
          by_cases hx : x = ⟨#[]⟩
          · subst hx
            have HF1 : Hid (acc.map toL = some_ ((xs3.take (j + 1)).map toL)) := Lib.hid (by rw [HON.out, if_pos rfl, List.append_nil]; exact HF.out)
            go_wp2_with fail
            go_roundw
            case rel => exact ⟨j + 1, acc, by omega, by omega, by go_num, HO, HF1, HBX, HQX⟩
            case measure => simp [intOf]; omega
          · have hxe : toL x ≠ [] := fun e => hx (toL_inj (t := ⟨#[]⟩) e)
            have hq1 : (x.toList == []) = false := by rw [ByteArray.toList_eq]; exact beq_eq_false_iff_ne.2 hxe
            have hq2 : (x.toList == ByteArray.toList ⟨#[]⟩) = false := by rw [ByteArray.toList_eq, ByteArray.toList_eq]; exact beq_eq_false_iff_ne.2 hxe
            have hq3 : x.toList.isEmpty = false := by
              rw [ByteArray.toList_eq]
              cases h9 : x.data.toList with
              | nil => exact absurd h9 hxe
              | cons => rfl
            clear hxe
            have HF1 : Hid ((acc ++ [x]).map toL = some_ ((xs3.take (j + 1)).map toL)) := Lib.hid (by rw [HON.out, if_neg hx, List.map_append, HF.out]; rfl)
            clear hx
            go_wp2_with (at_builtin; refine wpList_appT rfl (.tmp 48) (.tmp 53) rfl w3.heap.size _ acc rfl x HO.out (by rfl) (by omega) HBX.out.size ?_; intro v' w5 hown hg; refine pause ?_)
            have HQ5 := Lib.hid (Below.grown (HQX.out.alloc HQX.out.size _) hg (HQX.out.alloc HQX.out.size _).size (fun q hq => Nat.le_trans HQ3.out.size (HO.out.base q hq)))
            have HO5 := Lib.hid hown
            have HB5 := Lib.hid (Below.grown (HBX.out.alloc HBX.out.size _) hg (HBX.out.alloc HBX.out.size _).size HO.out.base)
            clear hown hg
            refine resume ?_
            go_wp2_with fail
            go_roundw
            case rel => exact ⟨j + 1, acc ++ [x], by omega, by rw [List.length_append]; show acc.length + 1 ≤ j + 1; omega, by go_num, HO5, HF1, HB5, HQ5⟩
            case measure => simp [intOf]; omega
        · obtain rfl : j = xs3.length := by omega
          have hfin := HF.out
          rw [List.take_length, HM3.out, HY.out, HX0.out] at hfin
          have HFIN := Lib.hid hfin
          clear hfin
          go_wp2_with fail
          go_ret
          exact ⟨_, acc, rfl, HO.out.more HQ3.out.size, HFIN.out, HQX.out⟩
end Go.Proofs.Ytbkgcikhiomenaa
