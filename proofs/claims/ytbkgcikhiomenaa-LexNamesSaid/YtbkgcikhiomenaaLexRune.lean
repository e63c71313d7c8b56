/-
  strings.IndexRune at a rune beyond ASCII, among blanks, line feeds and '#'.
-/
import Derived.Test.YtbkgcikhiomenaaLexBuild
import Derived.Laws.RangeAny
import Derived.Lib.OthersKept
import Derived.Lib.DecodeN
namespace Go.Proofs.Ytbkgcikhiomenaa
set_option linter.unusedVariables false
set_option linter.unusedSimpArgs false
open Go.ChangeShapes Go.WideShapes Go.ChangeAt Go.RowKit

def chars5 : ByteArray := ⟨#[32, 9, 13, 10, 35]⟩
set_option maxRecDepth 100000 in
theorem decN_high (n b0 b1 b2 b3 : Nat) (h : 1 ≤ n) (ha : 128 ≤ b0) (hb : b0 < 256) :
    (128 ≤ (Lib.decodeN n b0 b1 b2 b3).1 ∧ (Lib.decodeN n b0 b1 b2 b3).1 ≤ 1114111 ∧ ((Lib.decodeN n b0 b1 b2 b3).1 < 55296 ∨ 57343 < (Lib.decodeN n b0 b1 b2 b3).1)) ∧
    1 ≤ (Lib.decodeN n b0 b1 b2 b3).2 ∧ (Lib.decodeN n b0 b1 b2 b3).2 ≤ n ∧ (Lib.decodeN n b0 b1 b2 b3).2 ≤ 4 ∧ (1 < (Lib.decodeN n b0 b1 b2 b3).2 → 128 ≤ b1) ∧ (2 < (Lib.decodeN n b0 b1 b2 b3).2 → 128 ≤ b2) ∧ (3 < (Lib.decodeN n b0 b1 b2 b3).2 → 128 ≤ b3) := by
  unfold Lib.decodeN
  rw [if_neg (by omega)]
  repeat' split
  all_goals simp only
  all_goals omega
theorem dec_high (s : ByteArray) (pos : Nat) (h : pos < s.size) (ha : 128 ≤ (s[pos]'h).toNat) :
    (128 ≤ (Utf8.decode s pos).1 ∧ (Utf8.decode s pos).1 ≤ 1114111 ∧ ((Utf8.decode s pos).1 < 55296 ∨ 57343 < (Utf8.decode s pos).1)) ∧ 1 ≤ (Utf8.decode s pos).2 ∧ pos + (Utf8.decode s pos).2 ≤ s.size ∧ ∀ k, k < (Utf8.decode s pos).2 → 128 ≤ (s.get! (pos + k)).toNat := by
  have e : s.get! pos = s[pos]'h := by
    simp [ByteArray.get!, getElem!_pos, h]
    rfl
  rw [Lib.decode_at]
  obtain ⟨h1, h2, h3, h4, h5, h6, h7⟩ := decN_high (s.size - pos) (s.get! pos).toNat (s.get! (pos + 1)).toNat (s.get! (pos + 2)).toNat (s.get! (pos + 3)).toNat (by omega) (by rw [e]; exact ha) (s.get! pos).toNat_lt
  refine ⟨h1, h2, by omega, fun k hk => ?_⟩
  have : k = 0 ∨ k = 1 ∨ k = 2 ∨ k = 3 := by omega
  rcases this with rfl | rfl | rfl | rfl
  · rw [Nat.add_zero, e]; exact ha
  · exact h5 hk
  · exact h6 hk
  · exact h7 hk
/-- The bytes of a rune beyond ASCII: two to four, the last one no ASCII. -/
theorem enc_high (r : Int) (h1 : 128 ≤ r) (h2 : r ≤ 1114111) (hv : r < 55296 ∨ 57343 < r) :
    (Utf8.encode r).size = 2 ∧ 128 ≤ ((Utf8.encode r).get! 1).toNat ∨ (Utf8.encode r).size = 3 ∧ 128 ≤ ((Utf8.encode r).get! 2).toNat ∨ (Utf8.encode r).size = 4 ∧ 128 ≤ ((Utf8.encode r).get! 3).toNat := by
  have hval : Utf8.valid r = true := by
    simp only [Utf8.valid, Bool.or_eq_true, Bool.and_eq_true, decide_eq_true_eq]
    omega
  have hb : ∀ n : Nat, 128 ≤ (UInt8.ofNat (128 + n % 64)).toNat := fun n => by rw [UInt8.toNat_ofNat']; omega
  unfold Utf8.encode
  simp only [hval, if_true]
  rw [if_neg (by omega)]
  split
  · left; exact ⟨rfl, hb _⟩
  · split
    · right; left; exact ⟨rfl, hb _⟩
    · right; right; exact ⟨rfl, hb _⟩
theorem quiet_add {P : Program} {f : FuncId} {args : Array Value} {w : World} {a n : Nat} {v : Value}
    (h : Calls P f args (w.drewN (a + n)) fun e w' => e = .returned v ∧ ∃ m, w' = (w.drewN (a + n)).drewN m) :
    Calls P f args (w.drewN (a + n)) fun e w'' => e = .returned v ∧ ∃ m, w'' = w.drewN (a + m) :=
  h.mono fun _ _ ⟨he, m, hm⟩ => ⟨he, n + m, by rw [hm, World.drewN_drewN, Nat.add_assoc]⟩
theorem chars5_at : ∀ k (h : k < chars5.size), (chars5[k]'h).toNat < 128 := by decide
theorem byte_ne {k : Nat} {str : ByteArray} {d : Int} (hc : d < 128) (hk : k < str.size) (h : 128 ≤ (str.get! k).toNat) : (d == ((str[k]'hk).toNat : Int)) = false ∧ (d != ((str[k]'hk).toNat : Int)) = true := by
  have e : str.get! k = str[k]'hk := by
    simp [ByteArray.get!, getElem!_pos, hk]
    rfl
  rw [e] at h
  have h1 : (d == ((str[k]'hk).toNat : Int)) = false := by rw [beq_eq_false_iff_ne]; omega
  exact ⟨h1, by rw [bne, h1]; rfl⟩
theorem idx_none {k : Nat} {str : ByteArray} (hk : k < str.size) (h : 128 ≤ (str.get! k).toNat) (l : List UInt8) (hl : ∀ c ∈ l, c.toNat < 128) : Lib.indexByte l (((str[k]'hk).toNat : Int).toNat.toUInt8) < 0 := by
  have e : str.get! k = str[k]'hk := by
    simp [ByteArray.get!, getElem!_pos, hk]
    rfl
  rw [e] at h
  have e2 : ((str[k]'hk).toNat : Int).toNat.toUInt8 = str[k]'hk := by simp
  have := Lib.contains_iff_indexByte l (str[k]'hk)
  rw [e2]
  have hc : l.contains (str[k]'hk) = false := by
    cases hq : l.contains (str[k]'hk) with
    | false => rfl
    | true =>
      have := hl _ (List.contains_iff_mem.1 hq)
      omega
  rw [hc] at this
  have := of_decide_eq_false this.symm
  omega
set_option maxHeartbeats 1600000 in
set_option maxRecDepth 1000000 in
theorem indexRune_far (r : Int) (h1 : 128 ≤ r) (h2 : r ≤ 1114111) (hv : r < 55296 ∨ 57343 < r) (w : World) :
    Calls Try.prog 46 #[.string chars5, .int .i32 r] w fun e w' => e = .returned (.int .i64 (-1)) ∧ Below w.heap.size w w' := by
  by_cases hb : r = 65533
  · subst hb
    clear h1 h2 hv
    go_enter Try.func46, Try.ntmps46
    go_wp2_with fail
    go_loopw [] (fun w' => ∃ k : Nat, k ≤ chars5.size ∧ w' = w.iter chars5 k) (fun w' => chars5.size - w'.iterPos w.heap.size)
    case atStart => exact ⟨0, Nat.zero_le _, rfl⟩
    case round =>
      obtain ⟨k, hk, rfl⟩ := hrel
      by_cases hp : k < chars5.size
      · have hnx : ∀ ty, (Instr.next (.pointer (some ⟨w.heap.size, 0, none⟩)) true ty).run Try.prog (w.iter chars5 k) = _ := fun ty => run_next_ascii w chars5 k ty hp (chars5_at k hp)
        have hc := chars5_at k hp
        have hq : (((chars5[k]'hp).toNat : Int) == 65533) = false := by rw [beq_eq_false_iff_ne]; omega
        go_wp2_with fail
        go_roundw
        case rel => exact ⟨k + 1, by omega, rfl⟩
        case measure => simp; omega
      · have hnx : ∀ ty, (Instr.next (.pointer (some ⟨w.heap.size, 0, none⟩)) true ty).run Try.prog (w.iter chars5 k) = _ := fun ty => run_next_end w chars5 k ty hp
        go_wp2_with fail
        go_ret
        exact ⟨rfl, (Below.refl _ _).alloc (Nat.le_refl _) _⟩
  · have henc := enc_high r h1 h2 hv
    have hval : Lib.validRune r = true := by
      unfold Lib.validRune
      simp
      omega
    obtain ⟨str, hstr⟩ : ∃ str, Utf8.encode r = str := ⟨_, rfl⟩
    rw [hstr] at henc
    have hsz : (chars5.size : Int) = 5 := by rfl
    have hrb : (r == 65533) = false := by rw [beq_eq_false_iff_ne]; exact hb
    clear hv hb h2
    rcases henc with ⟨hs, he⟩ | ⟨hs, he⟩ | ⟨hs, he⟩
    · have hk : 1 < str.size := by omega
      have hi0 := idx_none hk he (chars5.extract 2 chars5.size).data.toList (by decide)
      obtain ⟨iv, HIV⟩ : ∃ iv, Hid (Lib.indexByte (chars5.extract 2 chars5.size).data.toList (((str[1]'hk).toNat : Int).toNat.toUInt8) = iv) := ⟨_, Lib.hid rfl⟩
      rw [HIV.out] at hi0
      obtain ⟨hq1, hq2⟩ := byte_ne (d := 9) (by decide) hk he
      have hch : ((chars5[1]'(by decide)).toNat : Int) = 9 := by rfl
      have hz : (str.size : Int) = 2 := by omega
      have hwr : IntKind.i64.wrap 2 = 2 := by decide
      have HE := Lib.hid he
      have HS := Lib.hid hs
      clear he hs
      go_enter Try.func46, Try.ntmps46
      go_wp2_with (first
        | (go_at_call 52; refine (Try.utf8_ValidRune r _).mono ?_; rintro e w1 ⟨rfl, rfl⟩; rw [hval]))
      go_step3
      go_wp2_with fail
      refine wp_loop_rounds 1 ?_
      rw [rounds_succ]
      go_wp2_with fail
      go_step3
      go_wp2_with fail
      go_quiet (fail)
      go_wp2_with fail
      go_quiet (first | (go_at_call 51; refine quiet_add (v := .int .i64 iv) ((Try.strings_IndexByte _ _ _).mono ?_); rintro e w2 ⟨he, rfl⟩; exact ⟨he.trans (by rw [HIV.out]), 0, rfl⟩))
      go_wp2_with fail
      rw [Exit.noGoto_ret]
      go_wp2_with fail
      rw [Exit.noGoto_ret]
      go_wp2_with fail
      go_ret
      exact ⟨rfl, belowDrewN (Below.refl _ _) _⟩
    · have hk : 2 < str.size := by omega
      have hi0 := idx_none hk he (chars5.extract 3 chars5.size).data.toList (by decide)
      obtain ⟨iv, HIV⟩ : ∃ iv, Hid (Lib.indexByte (chars5.extract 3 chars5.size).data.toList (((str[2]'hk).toNat : Int).toNat.toUInt8) = iv) := ⟨_, Lib.hid rfl⟩
      rw [HIV.out] at hi0
      obtain ⟨hq1, hq2⟩ := byte_ne (d := 13) (by decide) hk he
      have hch : ((chars5[2]'(by decide)).toNat : Int) = 13 := by rfl
      have hz : (str.size : Int) = 3 := by omega
      have hwr : IntKind.i64.wrap 3 = 3 := by decide
      have HE := Lib.hid he
      have HS := Lib.hid hs
      clear he hs
      go_enter Try.func46, Try.ntmps46
      go_wp2_with (first
        | (go_at_call 52; refine (Try.utf8_ValidRune r _).mono ?_; rintro e w1 ⟨rfl, rfl⟩; rw [hval]))
      go_step3
      go_wp2_with fail
      refine wp_loop_rounds 1 ?_
      rw [rounds_succ]
      go_wp2_with fail
      go_step3
      go_wp2_with fail
      go_quiet (fail)
      go_wp2_with fail
      go_quiet (first | (go_at_call 51; refine quiet_add (v := .int .i64 iv) ((Try.strings_IndexByte _ _ _).mono ?_); rintro e w2 ⟨he, rfl⟩; exact ⟨he.trans (by rw [HIV.out]), 0, rfl⟩))
      go_wp2_with fail
      rw [Exit.noGoto_ret]
      go_wp2_with fail
      rw [Exit.noGoto_ret]
      go_wp2_with fail
      go_ret
      exact ⟨rfl, belowDrewN (Below.refl _ _) _⟩
    · have hk : 3 < str.size := by omega
      have hi0 := idx_none hk he (chars5.extract 4 chars5.size).data.toList (by decide)
      obtain ⟨iv, HIV⟩ : ∃ iv, Hid (Lib.indexByte (chars5.extract 4 chars5.size).data.toList (((str[3]'hk).toNat : Int).toNat.toUInt8) = iv) := ⟨_, Lib.hid rfl⟩
      rw [HIV.out] at hi0
      obtain ⟨hq1, hq2⟩ := byte_ne (d := 10) (by decide) hk he
      have hch : ((chars5[3]'(by decide)).toNat : Int) = 10 := by rfl
      have hz : (str.size : Int) = 4 := by omega
      have hwr : IntKind.i64.wrap 4 = 4 := by decide
      have HE := Lib.hid he
      have HS := Lib.hid hs
      clear he hs
      go_enter Try.func46, Try.ntmps46
      go_wp2_with (first
        | (go_at_call 52; refine (Try.utf8_ValidRune r _).mono ?_; rintro e w1 ⟨rfl, rfl⟩; rw [hval]))
      go_step3
      go_wp2_with fail
      refine wp_loop_rounds 1 ?_
      rw [rounds_succ]
      go_wp2_with fail
      go_step3
      go_wp2_with fail
      go_quiet (fail)
      go_wp2_with fail
      go_quiet (first | (go_at_call 51; refine quiet_add (v := .int .i64 iv) ((Try.strings_IndexByte _ _ _).mono ?_); rintro e w2 ⟨he, rfl⟩; exact ⟨he.trans (by rw [HIV.out]), 0, rfl⟩))
      go_wp2_with fail
      rw [Exit.noGoto_ret]
      go_wp2_with fail
      rw [Exit.noGoto_ret]
      go_wp2_with fail
      go_ret
      exact ⟨rfl, belowDrewN (Below.refl _ _) _⟩
end Go.Proofs.Ytbkgcikhiomenaa
