/-
  The walk of num: contracts of its functions.
-/
import Derived.Test.YtbkgcikhiomenaaProg
import Derived.Test.YtbkgcikhiomenaaNumPure
import Derived.Test.YtbkgcikhiomenaaMem
import Derived.WalkKit
import Derived.ProofKit
import Derived.OpenShut
import Derived.Outline
import Derived.Deep.Light
import Derived.Lib.Hide
import Derived.Laws.RangeAny
import Derived.WalkMore
namespace Go.Proofs.Ytbkgcikhiomenaa
set_option linter.unusedVariables false
set_option linter.unusedSimpArgs false
open Go.ChangeShapes Go.WideShapes Go.ChangeAt Go.RowKit Go.Lib

theorem below_iter {w : World} (s : ByteArray) (k : Nat) : Below w.heap.size w (w.iter s k) := (Below.refl _ _).alloc (Nat.le_refl _) _

/-- The first k bytes of a text. -/
def pre (s : ByteArray) (k : Nat) : List UInt8 := s.data.toList.take k
theorem pre_succ (s : ByteArray) (k : Nat) (h : k < s.size) : pre s (k + 1) = pre s k ++ [s[k]] := by
  unfold pre
  rw [List.take_succ_eq_append_getElem (by simpa using h)]; rfl
theorem pre_all (s : ByteArray) : pre s s.size = s.data.toList := by
  unfold pre; exact List.take_of_length_le (by simp)
theorem pre_len (s : ByteArray) (k : Nat) (h : k ≤ s.size) : (pre s k).length = k := by
  unfold pre; rw [List.length_take]; have e : s.data.toList.length = s.size := by simp
  omega

theorem mem_at (s : ByteArray) (k : Nat) (h : k < s.size) : s[k] ∈ s.data.toList := by
  have e : s[k] = s.data.toList[k]'(by simpa using h) := rfl
  rw [e]; exact List.getElem_mem _
theorem pre_dig {s : ByteArray} (k : Nat) (hd : AllDig s.data.toList) : AllDig (pre s k) := fun c hc => hd c (List.mem_of_mem_take hc)
/-- A digit more. -/
theorem digit_step (s : ByteArray) (k : Nat) (h : k < s.size) (hs : s.size ≤ 19) (hd : AllDig (pre s k)) (h1 : 48 ≤ s[k].toNat) (h2 : s[k].toNat ≤ 57) :
    IntKind.u64.wrap (IntKind.u64.wrap (10 * (valD (pre s k) : Int)) + ((s[k].toNat : Int) - 48)) = (valD (pre s (k + 1)) : Nat) := by
  have hv := valD_lt k (pre s k) (pre_len s k (by omega)) hd
  have hp : (10 : Nat) ^ k ≤ 10 ^ 18 := Nat.pow_le_pow_right (by omega) (by omega)
  have e1 : IntKind.u64.wrap (10 * (valD (pre s k) : Int)) = 10 * (valD (pre s k) : Int) := IntWalk.u64_in _ ⟨by omega, by omega⟩
  rw [pre_succ s k h, valD_snoc, e1, IntWalk.u64_in _ ⟨by omega, by omega⟩]
  unfold dv
  omega
theorem u64_eq {a b : Int} (h : a = b) : Value.int .u64 a = .int .u64 b := by rw [h]

theorem digits_yes (s : ByteArray) (hs : s.size ≤ 19) (hd : AllDig s.data.toList) (w : World) :
    Calls Try.prog 44 #[.string s] w fun e w' => e = .returned (.tuple #[.int .u64 (valD s.data.toList : Nat), .bool true]) ∧ Below w.heap.size w w' := by
  have hdig : ∀ k (h : k < s.size), 48 ≤ s[k].toNat ∧ s[k].toNat ≤ 57 := fun k h => hd _ (mem_at s k h)
  have HD := Lib.hid hdig
  have HA : ∀ {k : Nat}, Hid (AllDig (pre s k)) := fun {k} => Lib.hid (pre_dig k hd)
  have HP := Lib.hid (pre_all s)
  clear hdig hd
  go_enter Try.func44, Try.ntmps44
  go_wp2
  go_step3
  go_wp2
  go_step3
  go_wp2
  go_loopw [2, 3] (fun n b w' => ∃ k : Nat, k ≤ s.size ∧ w' = w.iter s k ∧ n = .int .u64 (valD (pre s k) : Nat) ∧ b = .bool true) (fun _ _ w' => s.size - w'.iterPos w.heap.size)
  case atStart => exact ⟨0, Nat.zero_le _, rfl, rfl, rfl⟩
  case round =>
    obtain ⟨k, hk, rfl, rfl, rfl⟩ := hrel
    by_cases hp : k < s.size
    · have hnx : ∀ ty, (Instr.next (.pointer (some ⟨w.heap.size, 0, none⟩)) true ty).run Try.prog (w.iter s k) = _ := fun ty => run_next_any w s k ty hp
      obtain ⟨d1, d2⟩ := HD.out k hp
      have hdec := decode_ascii s k hp (by omega)
      rw [hdec] at hnx
      go_wp2
      go_roundw
      case rel => exact ⟨k + 1, by omega, rfl, u64_eq (digit_step s k hp hs HA.out d1 d2), rfl⟩
      case measure => simp; omega
    · have hnx : ∀ ty, (Instr.next (.pointer (some ⟨w.heap.size, 0, none⟩)) true ty).run Try.prog (w.iter s k) = _ := fun ty => run_next_end w s k ty hp
      go_wp2
      rw [Exit.noGoto_ret]
      go_ret2
      obtain rfl : k = s.size := by omega
      rw [HP.out]
      exact ⟨rfl, below_iter s _⟩

/-- What it answers where a byte is no digit: some number, and false. -/
def NoDigits (w : World) (e : Ending) (w' : World) : Prop := ∃ x : Int, e = .returned (.tuple #[.int .u64 x, .bool false]) ∧ Below w.heap.size w w'
theorem digits_no (s : ByteArray) (hd : ¬ AllDig s.data.toList) (w : World) :
    Calls Try.prog 44 #[.string s] w (NoDigits w) := by
  have HD := Lib.hid hd
  have HP := Lib.hid (pre_all s)
  clear hd
  go_enter Try.func44, Try.ntmps44
  go_wp2
  go_step3
  go_wp2
  go_step3
  go_wp2
  go_loopw [2, 3] (fun n b w' => ∃ (k : Nat) (x : Int), k ≤ s.size ∧ w' = w.iter s k ∧ n = .int .u64 x ∧ b = .bool true ∧ Hid (AllDig (pre s k))) (fun _ _ w' => s.size - w'.iterPos w.heap.size)
  case atStart => exact ⟨0, 0, Nat.zero_le _, rfl, rfl, rfl, Lib.hid (by intro c hc; simp [pre] at hc)⟩
  case round =>
    obtain ⟨k, x, hk, rfl, rfl, rfl, hall⟩ := hrel
    have hp : k < s.size := by
      rcases Nat.lt_or_ge k s.size with h | h
      · exact h
      · obtain rfl : k = s.size := by omega
        exact absurd (HP.out ▸ hall.out) HD.out
    have hnx : ∀ ty, (Instr.next (.pointer (some ⟨w.heap.size, 0, none⟩)) true ty).run Try.prog (w.iter s k) = _ := fun ty => run_next_any w s k ty hp
    by_cases hx : 48 ≤ s[k].toNat ∧ s[k].toNat ≤ 57
    · obtain ⟨d1, d2⟩ := hx
      have hdec := decode_ascii s k hp (by omega)
      rw [hdec] at hnx
      have HN : Hid (AllDig (pre s (k + 1))) := Lib.hid (by rw [pre_succ s k hp]; exact allDig_snoc.2 ⟨hall.out, d1, d2⟩)
      clear hdec
      go_wp2
      go_roundw
      case rel => exact ⟨k + 1, _, by omega, rfl, rfl, rfl, HN⟩
      case measure => simp; omega
    · have hr : (Utf8.decode s k).1 < 48 ∨ 57 < (Utf8.decode s k).1 := by
        by_cases ha : s[k].toNat < 128
        · rw [decode_ascii s k hp ha]; simp only; omega
        · have := (decode_high s k hp (by omega)).1; omega
      clear hx
      generalize Utf8.decode s k = dc at hnx hr
      rcases hr with hr | hr
      · have hr' : (dc.1 : Int) < 48 := by omega
        go_wp2
        rw [Exit.noGoto_ret]
        go_ret2
        exact ⟨_, rfl, below_iter s _⟩
      · have hr' : (57 : Int) < dc.1 := by omega
        go_wp2
        rw [Exit.noGoto_ret]
        go_ret2
        exact ⟨_, rfl, below_iter s _⟩
end Go.Proofs.Ytbkgcikhiomenaa
