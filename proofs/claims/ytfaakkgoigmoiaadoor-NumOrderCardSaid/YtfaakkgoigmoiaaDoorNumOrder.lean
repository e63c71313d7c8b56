/-
  The walk of the law NumOrder; ahead of it the plain law: numerals of equal length compare byte by byte as their numbers do.
-/
import Derived.Test.YtfaakkgoigmoiaaDoorNumAlive
import Derived.Test.YtfaakkgoigmoiaaDoorNumSmall1
namespace Go.Proofs.YtfaakkgoigmoiaaDoor
set_option linter.unusedVariables false
open Go.ChangeShapes Go.WideShapes Go.ChangeAt Go.RowKit Go.Lib

def valA (n : Nat) (l : List UInt8) : Nat := l.foldl (fun n c => 10 * n + dv c) n
theorem valA_eq (l : List UInt8) : ∀ n, valA n l = n * 10 ^ l.length + valD l := by
  induction l with
  | nil => intro n; simp [valA, valD]
  | cons c l ih =>
    intro n
    have h1 : valA n (c :: l) = valA (10 * n + dv c) l := rfl
    have h2 : valD (c :: l) = valA (10 * 0 + dv c) l := rfl
    rw [h1, h2, ih, ih, List.length_cons, Nat.pow_succ, Nat.mul_zero, Nat.zero_add, Nat.add_mul, ← Nat.add_assoc]
    congr 2
    rw [Nat.mul_comm 10 n, Nat.mul_assoc, Nat.mul_comm 10]
theorem valD_cons (c : UInt8) (l : List UInt8) : valD (c :: l) = dv c * 10 ^ l.length + valD l := by
  have h2 : valD (c :: l) = valA (10 * 0 + dv c) l := rfl
  rw [h2, valA_eq, Nat.mul_zero, Nat.zero_add]
theorem less_val : ∀ (l m : List UInt8), l.length = m.length → AllDig l → AllDig m → (Op.bytesLess l m = true ↔ valD l < valD m)
  | [], [], _, _, _ => by simp [Op.bytesLess]
  | c :: l, d :: m, hl, h1, h2 => by
    have hl' : l.length = m.length := by simpa using hl
    have c1 := h1 c (by simp)
    have c2 := h2 d (by simp)
    have h1' : AllDig l := fun x hx => h1 x (by simp [hx])
    have h2' : AllDig m := fun x hx => h2 x (by simp [hx])
    have ih := less_val l m hl' h1' h2'
    have b1 := valD_lt _ l rfl h1'
    have b2 := valD_lt _ m rfl h2'
    rw [valD_cons, valD_cons, hl']
    rw [hl'] at b1
    unfold Dig at c1 c2
    simp only [Op.bytesLess, Bool.or_eq_true, decide_eq_true_eq, Bool.and_eq_true, beq_iff_eq, UInt8.lt_iff_toNat_lt]
    rcases Nat.lt_trichotomy c.toNat d.toNat with h | h | h
    · have : dv c + 1 ≤ dv d := by unfold dv; omega
      have := Nat.mul_le_mul_right (10 ^ m.length) this
      rw [Nat.add_mul] at this
      constructor
      · intro _; omega
      · intro _; exact .inl h
    · have : c = d := UInt8.toNat_inj.1 h
      subst this
      constructor
      · rintro (h' | ⟨_, h'⟩)
        · omega
        · have := ih.1 h'; omega
      · intro h'; exact .inr ⟨rfl, ih.2 (by omega)⟩
    · have : dv d + 1 ≤ dv c := by unfold dv; omega
      have := Nat.mul_le_mul_right (10 ^ m.length) this
      rw [Nat.add_mul] at this
      constructor
      · rintro (h' | ⟨rfl, h'⟩) <;> omega
      · intro h'; omega
theorem pow_le_of_dec : ∀ (k u : Nat), (decDigits u).length ≥ k + 1 → 1 ≤ u → 10 ^ k ≤ u := by
  intro k
  induction k with
  | zero => intro u _ hu; simpa using hu
  | succ k ih =>
    intro u hu h1
    rw [decDigits_length] at hu
    by_cases hs : u < 10
    · rw [nDigits_small hs] at hu; omega
    · rw [nDigits_big hs] at hu
      have := ih (u / 10) (by rw [decDigits_length]; omega) (by omega)
      rw [Nat.pow_succ]; omega
theorem dec_pos (u : Nat) : 1 ≤ (decDigits u).length := by
  have := (dec_spec u).1.2.1
  exact List.length_pos_iff.2 this
theorem lt_of_len {u v : Nat} (h : (decDigits u).length < (decDigits v).length) : u < v := by
  have h0 := dec_pos u
  have h2 : v ≠ 0 := by
    rintro rfl
    rw [dec_small (u := 0) (by omega)] at h
    simp at h
    rw [h] at h0
    simp at h0
  have h3 := pow_le_of_dec (decDigits u).length v (by omega) (by omega)
  have h4 := valD_lt _ _ rfl (dec_spec u).1.1
  rw [(dec_spec u).2.1] at h4
  omega
theorem less_dec {u v : Nat} (h : (decDigits u).length = (decDigits v).length) : Op.bytesLess (decDigits u) (decDigits v) = decide (u < v) := by
  have := less_val _ _ h (dec_spec u).1.1 (dec_spec v).1.1
  rw [(dec_spec u).2.1, (dec_spec v).2.1] at this
  rw [Bool.eq_iff_iff, this]; simp

/-- A text that is a number's, as one name. -/
def TextOf (n : Int) (X : ByteArray) : Prop := X.data.toList = itoa n
theorem write_as (n : Int) (hn : In64n n) (X : ByteArray) (hX : TextOf n X) (w : World) (ht : Tab w) :
    Calls Tryd.prog 10 #[.int .i64 n] w fun e w' => e = .returned (.string X) ∧ Below w.heap.size w w' := by
  have e : X = ⟨(itoa n).toArray⟩ := bytes_inj (by rw [hX])
  rw [e]
  exact write_is n hn w ht
theorem text_ex (n : Int) : ∃ X, TextOf n X := ⟨⟨(itoa n).toArray⟩, rfl⟩
theorem text_size {n : Int} {X : ByteArray} (h : TextOf n X) : X.size = (itoa n).length := by
  have : X.size = X.data.toList.length := (Array.length_toList (xs := X.data)).symm
  rw [this, h]
theorem text_eq {a b : Int} {X Y : ByteArray} (hX : TextOf a X) (hY : TextOf b Y) : (X.toList == Y.toList) = (a == b) := by
  rw [ByteArray.toList_eq, ByteArray.toList_eq, hX, hY, Bool.eq_iff_iff, beq_iff_eq, beq_iff_eq]
  exact ⟨itoa_inj, fun h => by rw [h]⟩
theorem text_less {a b : Int} {X Y : ByteArray} (hX : TextOf a X) (hY : TextOf b Y) (ha : 0 ≤ a) (hb : 0 ≤ b) (hs : X.size = Y.size) : Op.bytesLess X.toList Y.toList = decide (a < b) := by
  rw [text_size hX, text_size hY, itoa_pos ha, itoa_pos hb] at hs
  rw [ByteArray.toList_eq, ByteArray.toList_eq, hX, hY, itoa_pos ha, itoa_pos hb, less_dec hs, decide_eq_decide]
  omega
theorem text_short {a b : Int} {X Y : ByteArray} (hX : TextOf a X) (hY : TextOf b Y) (ha : 0 ≤ a) (hb : 0 ≤ b) (hs : X.size < Y.size) : a < b := by
  rw [text_size hX, text_size hY, itoa_pos ha, itoa_pos hb] at hs
  have := lt_of_len hs
  omega
theorem text_neg {a : Int} {X Z : ByteArray} (hX : TextOf a X) (hZ : TextOf (-a) Z) (ha : a < 0) : (X.toList == ((⟨[45].toArray⟩ : ByteArray) ++ Z).toList) = true := by
  rw [ByteArray.toList_eq, ByteArray.toList_eq, hX, beq_iff_eq, ByteArray.data_append, Array.toList_append, hZ, itoa_neg' ha, itoa_pos (by omega), show (-a).toNat = a.natAbs by omega]
  rfl
theorem itoa_len20 {n : Int} (h : In64n n) : (itoa n).length ≤ 20 := by
  rcases numOf_form (l := itoa n) ⟨h, rfl⟩ with ⟨h1, _, h2⟩ | ⟨r, h1, h2, _, _, h3⟩
  · have := canon_len h1 (by omega); omega
  · rw [h1]; have := canon_len h2 h3; simp; omega
end Go.Proofs.YtfaakkgoigmoiaaDoor
