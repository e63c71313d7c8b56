/-
  Plain law: decimal numerals, there and back. No program in sight. And what stands on it: Num.
-/
import Derived.Test.YtbffebcjimhapaaGreatDoorMg1
import Derived.WalkKit
import Derived.Lib.ItoaNum
import Derived.Test.YtbffebcjimhapaaGreatDoorProg
import Derived.ProofKit
import Derived.OpenShut
import Derived.Outline
import Derived.Deep.Light
import Derived.Lib.Hide
import Derived.Laws.RangeAny
import Derived.WalkMore
namespace Go.Proofs.YtbffebcjimhapaaGreatDoor
set_option linter.unusedVariables false
set_option linter.unusedSimpArgs false
open Go.RowKit Go.Lib
def dv (c : UInt8) : Nat := c.toNat - 48
def Dig (c : UInt8) : Prop := 48 ≤ c.toNat ∧ c.toNat ≤ 57
def AllDig (l : List UInt8) : Prop := ∀ c ∈ l, Dig c
def valD (l : List UInt8) : Nat := l.foldl (fun n c => 10 * n + dv c) 0
theorem valD_nil : valD [] = 0 := rfl
theorem valD_snoc (l : List UInt8) (c : UInt8) : valD (l ++ [c]) = 10 * valD l + dv c := by unfold valD; rw [List.foldl_append]; rfl
theorem allDig_snoc {l : List UInt8} {c : UInt8} : AllDig (l ++ [c]) ↔ AllDig l ∧ Dig c := by
 unfold AllDig
 constructor
 · intro h; exact ⟨fun x hx => h x (by simp [hx]), h c (by simp)⟩
 · rintro ⟨h1, h2⟩ x hx
   rcases List.mem_append.1 hx with hx | hx
   · exact h1 x hx
   · rw [List.mem_singleton] at hx; subst hx; exact h2
theorem valD_lt : ∀ (k : Nat) (l : List UInt8), l.length = k → AllDig l → valD l < 10 ^ k
 | 0, l, hk, _ => by have : l = [] := List.eq_nil_of_length_eq_zero hk; subst this; simp [valD]
 | k + 1, l, hk, hd => by
   have hne : l ≠ [] := by intro h; rw [h] at hk; cases hk
   have e := List.dropLast_concat_getLast hne
   rw [← e] at hd ⊢
   rw [valD_snoc]
   obtain ⟨h1, h2⟩ := allDig_snoc.1 hd
   have := valD_lt k l.dropLast (by rw [List.length_dropLast]; omega) h1
   unfold Dig at h2
   unfold dv
   rw [Nat.pow_succ]
   omega
def Canon (l : List UInt8) : Prop := AllDig l ∧ l ≠ [] ∧ (l = [48] ∨ l.head? ≠ some 48)
theorem toNat_digit {u : Nat} (h : u < 10) : (UInt8.ofNat (48 + u)).toNat = 48 + u := by
 rw [UInt8.toNat_ofNat']; omega
theorem dec_small {u : Nat} (h : u < 10) : decDigits u = [UInt8.ofNat (48 + u)] := by rw [decDigits, dif_pos h]
theorem dec_big {u : Nat} (h : ¬ u < 10) : decDigits u = decDigits (u / 10) ++ [UInt8.ofNat (48 + u % 10)] := by rw [decDigits, dif_neg h]
theorem head_append {l m : List UInt8} (h : l ≠ []) : (l ++ m).head? = l.head? := by
 cases l with
 | nil => exact absurd rfl h
 | cons a l => rfl
theorem dec_spec (u : Nat) : Canon (decDigits u) ∧ valD (decDigits u) = u ∧ (1 ≤ u → (decDigits u).head? ≠ some 48) := by
 induction u using Nat.strongRecOn with
 | _ u ih =>
   by_cases h : u < 10
   · rw [dec_small h]
     have ht := toNat_digit h
     refine ⟨⟨?_, by simp, ?_⟩, ?_, ?_⟩
     · intro c hc; rw [List.mem_singleton] at hc; subst hc; unfold Dig; omega
     · by_cases h0 : u = 0
       · left; subst h0; rfl
       · right
         intro e
         have e' : UInt8.ofNat (48 + u) = 48 := by simpa using e
         rw [e'] at ht
         have : (48 : UInt8).toNat = 48 := rfl
         omega
     · show 10 * 0 + dv _ = u
       unfold dv; omega
     · intro h1 e
       have e' : UInt8.ofNat (48 + u) = 48 := by simpa using e
       rw [e'] at ht
       have : (48 : UInt8).toNat = 48 := rfl
       omega
   · rw [dec_big h]
     obtain ⟨⟨h1, h2, h3⟩, h4, h5⟩ := ih (u / 10) (by omega)
     have ht := toNat_digit (u := u % 10) (by omega)
     have hh := h5 (by omega)
     refine ⟨⟨allDig_snoc.2 ⟨h1, by unfold Dig; omega⟩, by simp, Or.inr (by rw [head_append h2]; exact hh)⟩, ?_, fun _ => by rw [head_append h2]; exact hh⟩
     rw [valD_snoc, h4]
     unfold dv; omega
theorem dec_val : ∀ (k : Nat) (l : List UInt8), l.length = k → Canon l → decDigits (valD l) = l ∧ (l ≠ [48] → 1 ≤ valD l)
 | 0, l, hk, hc => absurd (List.eq_nil_of_length_eq_zero hk) hc.2.1
 | k + 1, l, hk, hc => by
   obtain ⟨hd, hne, hz⟩ := hc
   have e := List.dropLast_concat_getLast hne
   generalize l.getLast hne = c at e
   generalize hl : l.dropLast = l' at e
   have hlen : l'.length = k := by rw [← hl, List.length_dropLast]; omega
   subst e
   obtain ⟨h1, h2⟩ := allDig_snoc.1 hd
   rw [valD_snoc]
   unfold Dig at h2
   have hdv : dv c < 10 := by unfold dv; omega
   have hcc : UInt8.ofNat (48 + dv c) = c := by
    apply UInt8.toNat_inj.1
    rw [toNat_digit hdv]; unfold dv; omega
   by_cases hk0 : k = 0
   · have : l' = [] := List.eq_nil_of_length_eq_zero (by omega)
     subst this
     rw [valD_nil]
     refine ⟨?_, ?_⟩
     · rw [show 10 * 0 + dv c = dv c by omega, dec_small hdv, hcc]; rfl
     · intro hx
       have : c ≠ 48 := fun h => hx (by rw [h]; rfl)
       have : c.toNat ≠ 48 := fun h => this (UInt8.toNat_inj.1 (by rw [h]; rfl))
       unfold dv; omega
   · have hl' : l' ≠ [] := by intro h; rw [h] at hlen; simp at hlen; omega
     have hhead : l'.head? ≠ some 48 := by
      rcases hz with hz | hz
      · have h9 : (l' ++ [c]).length = 1 := by rw [hz]; rfl
        rw [List.length_append, hlen] at h9
        have h8 : [c].length = 1 := rfl
        omega
      · rw [head_append hl'] at hz; exact hz
     obtain ⟨i1, i2⟩ := dec_val k l' hlen ⟨h1, hl', Or.inr hhead⟩
     have hv := i2 (by intro h; rw [h] at hhead; exact hhead rfl)
     refine ⟨?_, fun _ => by omega⟩
     rw [dec_big (by omega), show (10 * valD l' + dv c) / 10 = valD l' by omega, show (10 * valD l' + dv c) % 10 = dv c by omega, i1, hcc]
/-! ### Which texts are numbers' -/
def In64n (n : Int) : Prop := -9223372036854775808 ≤ n ∧ n ≤ 9223372036854775807
def NumOf (l : List UInt8) (n : Int) : Prop := In64n n ∧ itoa n = l
theorem itoa_pos {n : Int} (h : 0 ≤ n) : itoa n = decDigits n.toNat := by unfold itoa; rw [if_neg (by omega)]
theorem itoa_neg' {n : Int} (h : n < 0) : itoa n = 45 :: decDigits n.natAbs := by unfold itoa; rw [if_pos h]
theorem dig45 {u : Nat} (l : List UInt8) : decDigits u ≠ 45 :: l := by
 intro h
 have := (dec_spec u).1.1 45 (by rw [h]; simp)
 unfold Dig at this
 have h45 : (45 : UInt8).toNat = 45 := rfl
 omega
theorem itoa_inj {a b : Int} (h : itoa a = itoa b) : a = b := by
 by_cases ha : a < 0
 · by_cases hb : b < 0
   · rw [itoa_neg' ha, itoa_neg' hb] at h
     have h' : decDigits a.natAbs = decDigits b.natAbs := by injection h
     have h1 := (dec_spec a.natAbs).2.1
     rw [h', (dec_spec b.natAbs).2.1] at h1
     omega
   · rw [itoa_neg' ha, itoa_pos (by omega)] at h
     exact absurd h.symm (dig45 _)
 · by_cases hb : b < 0
   · rw [itoa_neg' hb, itoa_pos (by omega)] at h
     exact absurd h (dig45 _)
   · rw [itoa_pos (by omega), itoa_pos (by omega)] at h
     have h1 := (dec_spec a.toNat).2.1
     rw [h, (dec_spec b.toNat).2.1] at h1
     omega
def Told (l : List UInt8) (n e : Int) : Prop := (e = 0 ∧ NumOf l n) ∨ (e = 10 ∧ n = 0 ∧ ∀ m, ¬ NumOf l m)
theorem Told.unique {l : List UInt8} {n e n' e' : Int} (h : Told l n e) (h' : Told l n' e') : n = n' ∧ e = e' := by
 rcases h with ⟨rfl, h1, h2⟩ | ⟨rfl, rfl, h2⟩ <;> rcases h' with ⟨rfl, h3, h4⟩ | ⟨rfl, rfl, h4⟩
 · exact ⟨itoa_inj (h2.trans h4.symm), rfl⟩
 · exact absurd ⟨h1, h2⟩ (h4 n)
 · exact absurd ⟨h3, h4⟩ (h2 n')
 · exact ⟨rfl, rfl⟩
theorem numOf_pos {l : List UInt8} (h : Canon l) (hx : valD l ≤ 9223372036854775807) : NumOf l (valD l : Int) :=
 ⟨⟨by omega, by omega⟩, by rw [itoa_pos (by omega)]; exact (dec_val _ l rfl h).1⟩
theorem numOf_neg {l : List UInt8} (h : Canon l) (h0 : l ≠ [48]) (hx : valD l ≤ 9223372036854775808) : NumOf (45 :: l) (-(valD l : Int)) := by
 obtain ⟨h1, h2⟩ := dec_val _ l rfl h
 have := h2 h0
 refine ⟨⟨by omega, by omega⟩, ?_⟩
 rw [itoa_neg' (by omega), show (-(valD l : Int)).natAbs = valD l by omega, h1]
theorem numOf_form {l : List UInt8} {m : Int} (h : NumOf l m) : (Canon l ∧ m = valD l ∧ valD l ≤ 9223372036854775807) ∨ ∃ r, l = 45 :: r ∧ Canon r ∧ r ≠ [48] ∧ m = -(valD r : Int) ∧ valD r ≤ 9223372036854775808 := by
 obtain ⟨⟨g1, g2⟩, h⟩ := h
 by_cases hm : m < 0
 · right
   rw [itoa_neg' hm] at h
   obtain ⟨s1, s2, s3⟩ := dec_spec m.natAbs
   refine ⟨_, h.symm, s1, ?_, by rw [s2]; omega, by rw [s2]; omega⟩
   intro e
   rw [e] at s3
   exact s3 (by omega) rfl
 · left
   rw [itoa_pos (by omega)] at h
   obtain ⟨s1, s2, s3⟩ := dec_spec m.toNat
   rw [h] at s1 s2
   exact ⟨s1, by omega, by omega⟩
theorem canon_len {l : List UInt8} (h : Canon l) (hx : valD l ≤ 9223372036854775808) : l.length ≤ 19 := by
 obtain ⟨h1, h2⟩ := dec_val _ l rfl h
 rw [← h1, decDigits_length]
 have := lt_pow_nDigits (valD l)
 rcases Nat.lt_or_ge 19 (nDigits (valD l)) with hlt | hge
 · exfalso
   have hk : ∀ (k u : Nat), nDigits u ≥ k + 1 → 1 ≤ u → 10 ^ k ≤ u := by
    intro k
    induction k with
    | zero => intro u _ hu; simpa using hu
    | succ k ih =>
      intro u hu h1
      by_cases hs : u < 10
      · rw [nDigits_small hs] at hu; omega
      · rw [nDigits_big hs] at hu
        have := ih (u / 10) (by omega) (by omega)
        rw [Nat.pow_succ]; omega
   have h3 := hk 19 (valD l) (by omega) (by
    rcases Nat.eq_zero_or_pos (valD l) with h0 | h0
    · rw [h0, nDigits_small (by omega)] at hlt; omega
    · exact h0)
   have : (10 : Nat) ^ 19 = 10000000000000000000 := by decide
   omega
 · exact hge
end Go.Proofs.YtbffebcjimhapaaGreatDoor
namespace Go.Proofs.YtbffebcjimhapaaGreatDoor
set_option linter.unusedVariables false
set_option linter.unusedSimpArgs false
open Go.ChangeShapes Go.WideShapes Go.ChangeAt Go.RowKit Go.Lib
theorem below_iter {w : World} (s : ByteArray) (k : Nat) : Below w.heap.size w (w.iter s k) := (Below.refl _ _).alloc (Nat.le_refl _) _
def pre (s : ByteArray) (k : Nat) : List UInt8 := s.data.toList.take k
theorem pre_succ (s : ByteArray) (k : Nat) (h : k < s.size) : pre s (k + 1) = pre s k ++ [s[k]] := by
 unfold pre
 rw [List.take_succ_eq_append_getElem (by simpa using h)]; rfl
theorem pre_all (s : ByteArray) : pre s s.size = s.data.toList := by
 unfold pre; exact List.take_of_length_le (by simp)
theorem pre_len (s : ByteArray) (k : Nat) (h : k ≤ s.size) : (pre s k).length = k := by
 unfold pre; rw [List.length_take]; have e : s.data.toList.length = s.size := by simp
 omega
theorem mem_at (s : ByteArray) (k : Nat) (h : k < s.size) : s[k] ∈ s.data.toList := by
 have e : s[k] = s.data.toList[k]'(by simpa using h) := rfl
 rw [e]; exact List.getElem_mem _
theorem pre_dig {s : ByteArray} (k : Nat) (hd : AllDig s.data.toList) : AllDig (pre s k) := fun c hc => hd c (List.mem_of_mem_take hc)
theorem digit_step (s : ByteArray) (k : Nat) (h : k < s.size) (hs : s.size ≤ 19) (hd : AllDig (pre s k)) (h1 : 48 ≤ s[k].toNat) (h2 : s[k].toNat ≤ 57) :
 IntKind.u64.wrap (IntKind.u64.wrap (10 * (valD (pre s k) : Int)) + ((s[k].toNat : Int) - 48)) = (valD (pre s (k + 1)) : Nat) := by
 have hv := valD_lt k (pre s k) (pre_len s k (by omega)) hd
 have hp : (10 : Nat) ^ k ≤ 10 ^ 18 := Nat.pow_le_pow_right (by omega) (by omega)
 have e1 : IntKind.u64.wrap (10 * (valD (pre s k) : Int)) = 10 * (valD (pre s k) : Int) := IntWalk.u64_in _ ⟨by omega, by omega⟩
 rw [pre_succ s k h, valD_snoc, e1, IntWalk.u64_in _ ⟨by omega, by omega⟩]
 unfold dv
 omega
theorem u64_eq {a b : Int} (h : a = b) : Value.int .u64 a = .int .u64 b := by rw [h]
theorem digits_yes (s : ByteArray) (hs : s.size ≤ 19) (hd : AllDig s.data.toList) (w : World) :
 Calls Tryz.prog 173 #[.string s] w fun e w' => e = .returned (.tuple #[.int .u64 (valD s.data.toList : Nat), .bool true]) ∧ Below w.heap.size w w' := by
 have hdig : ∀ k (h : k < s.size), 48 ≤ s[k].toNat ∧ s[k].toNat ≤ 57 := fun k h => hd _ (mem_at s k h)
 have HD := Lib.hid hdig
 have HA : ∀ {k : Nat}, Hid (AllDig (pre s k)) := fun {k} => Lib.hid (pre_dig k hd)
 have HP := Lib.hid (pre_all s)
 clear hdig hd
 go_enter Tryz.func173, Tryz.ntmps173
 go_wp2
 go_step3
 go_wp2
 go_step3
 go_wp2
 go_loopw [2, 3] (fun n b w' => ∃ k : Nat, k ≤ s.size ∧ w' = w.iter s k ∧ n = .int .u64 (valD (pre s k) : Nat) ∧ b = .bool true) (fun _ _ w' => s.size - w'.iterPos w.heap.size)
 case atStart => exact ⟨0, Nat.zero_le _, rfl, rfl, rfl⟩
 case round =>
  obtain ⟨k, hk, rfl, rfl, rfl⟩ := hrel
  by_cases hp : k < s.size
  · have hnx : ∀ ty, (Instr.next (.pointer (some ⟨w.heap.size, 0, none⟩)) true ty).run Tryz.prog (w.iter s k) = _ := fun ty => run_next_any w s k ty hp
    obtain ⟨d1, d2⟩ := HD.out k hp
    have hdec := decode_ascii s k hp (by omega)
    rw [hdec] at hnx
    go_wp2
    go_roundw
    case rel => exact ⟨k + 1, by omega, rfl, u64_eq (digit_step s k hp hs HA.out d1 d2), rfl⟩
    case measure => simp; omega
  · have hnx : ∀ ty, (Instr.next (.pointer (some ⟨w.heap.size, 0, none⟩)) true ty).run Tryz.prog (w.iter s k) = _ := fun ty => run_next_end w s k ty hp
    go_wp2
    rw [Exit.noGoto_ret]
    go_ret2
    obtain rfl : k = s.size := by omega
    rw [HP.out]
    exact ⟨rfl, below_iter s _⟩
def NoDigits (w : World) (e : Ending) (w' : World) : Prop := ∃ x : Int, e = .returned (.tuple #[.int .u64 x, .bool false]) ∧ Below w.heap.size w w'
theorem digits_no (s : ByteArray) (hd : ¬ AllDig s.data.toList) (w : World) :
 Calls Tryz.prog 173 #[.string s] w (NoDigits w) := by
 have HD := Lib.hid hd
 have HP := Lib.hid (pre_all s)
 clear hd
 go_enter Tryz.func173, Tryz.ntmps173
 go_wp2
 go_step3
 go_wp2
 go_step3
 go_wp2
 go_loopw [2, 3] (fun n b w' => ∃ (k : Nat) (x : Int), k ≤ s.size ∧ w' = w.iter s k ∧ n = .int .u64 x ∧ b = .bool true ∧ Hid (AllDig (pre s k))) (fun _ _ w' => s.size - w'.iterPos w.heap.size)
 case atStart => exact ⟨0, 0, Nat.zero_le _, rfl, rfl, rfl, Lib.hid (by intro c hc; simp [pre] at hc)⟩
 case round =>
  obtain ⟨k, x, hk, rfl, rfl, rfl, hall⟩ := hrel
  have hp : k < s.size := by
   rcases Nat.lt_or_ge k s.size with h | h
   · exact h
   · obtain rfl : k = s.size := by omega
     exact absurd (HP.out ▸ hall.out) HD.out
  have hnx : ∀ ty, (Instr.next (.pointer (some ⟨w.heap.size, 0, none⟩)) true ty).run Tryz.prog (w.iter s k) = _ := fun ty => run_next_any w s k ty hp
  by_cases hx : 48 ≤ s[k].toNat ∧ s[k].toNat ≤ 57
  · obtain ⟨d1, d2⟩ := hx
    have hdec := decode_ascii s k hp (by omega)
    rw [hdec] at hnx
    have HN : Hid (AllDig (pre s (k + 1))) := Lib.hid (by rw [pre_succ s k hp]; exact allDig_snoc.2 ⟨hall.out, d1, d2⟩)
    clear hdec
    go_wp2
    go_roundw
    case rel => exact ⟨k + 1, _, by omega, rfl, rfl, rfl, HN⟩
    case measure => simp; omega
  · have hr : (Utf8.decode s k).1 < 48 ∨ 57 < (Utf8.decode s k).1 := by
     by_cases ha : s[k].toNat < 128
     · rw [decode_ascii s k hp ha]; simp only; omega
     · have := (decode_high s k hp (by omega)).1; omega
    clear hx
    generalize Utf8.decode s k = dc at hnx hr
    rcases hr with hr | hr
    · have hr' : (dc.1 : Int) < 48 := by omega
      go_wp2
      rw [Exit.noGoto_ret]
      go_ret2
      exact ⟨_, rfl, below_iter s _⟩
    · have hr' : (57 : Int) < dc.1 := by omega
      go_wp2
      rw [Exit.noGoto_ret]
      go_ret2
      exact ⟨_, rfl, below_iter s _⟩
end Go.Proofs.YtbffebcjimhapaaGreatDoor
