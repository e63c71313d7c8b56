/-
  Plain law: a text one of whose words is the number of an int.
-/
import Derived.Test.YtbffebcjimhapaaDoorMg23
namespace Go.Proofs.YtbffebcjimhapaaDoor
set_option linter.unusedVariables false
set_option linter.unusedSimpArgs false
open Go.ChangeShapes Go.WideShapes Go.ChangeAt Go.RowKit

/-- The line of the int. -/
def lineI (W : Bs) : List Bs := [[114, 49], [116, 48], [61], [105, 110, 116], W]
def retI : List Bs := [[114, 101, 116, 117, 114, 110], [114, 49]]
def preI : List (List Bs) := [[[116, 121, 112, 101], [105, 110, 116]], [[116, 121, 112, 101], [102, 110], [116, 48]], [[102, 117, 110, 99], [116, 49]], [[98, 108, 111, 99, 107]], [[114, 48], [116, 48], [61], [105, 110, 116], [53]], [[106, 117, 109, 112], [98, 49]], [[98, 108, 111, 99, 107]]]
def linesI (W : Bs) : List (List Bs) := preI ++ [lineI W, retI]
/-- r1 t0 = int -/
def intS : ByteArray := ⟨#[114, 49, 32, 116, 48, 32, 61, 32, 105, 110, 116, 32]⟩
/-- a line feed, return r1 -/
def retS : ByteArray := ⟨#[10, 114, 101, 116, 117, 114, 110, 32, 114, 49]⟩
/-- The chapter's text but for its last line feed. -/
def textB : Bs := [116, 121, 112, 101, 32, 105, 110, 116, 10, 116, 121, 112, 101, 32, 102, 110, 32, 116, 48, 10, 102, 117, 110, 99, 32, 116, 49, 10, 98, 108, 111, 99, 107, 10, 114, 48, 32, 116, 48, 32, 61, 32, 105, 110, 116, 32, 53, 10, 106, 117, 109, 112, 32, 98, 49, 10, 98, 108, 111, 99, 107]
theorem textB_raw : rawL textB = preI := by kernel_rfl
theorem text_int (W : ByteArray) : toL (textS ++ ((intS ++ W) ++ retS)) = textB ++ 10 :: (([114, 49, 32, 116, 48, 32, 61, 32, 105, 110, 116, 32] ++ toL W) ++ 10 :: [114, 101, 116, 117, 114, 110, 32, 114, 49]) := by
  rw [toL_app, toL_app, toL_app]
  rfl
theorem may_parts {W : Bs} (h : mayW W = true) : W ≠ [] ∧ ∀ c ∈ W, isPlain c = true := by
  unfold mayW spB at h
  rw [Bool.and_eq_true, Bool.not_eq_true', Bool.not_eq_true', List.any_eq_false] at h
  exact ⟨by rintro rfl; exact absurd h.1 (by decide), fun c hc => by simpa using h.2 c hc⟩
theorem may_no10 {W : Bs} (h : mayW W = true) : ∀ c ∈ W, c ≠ 10 := fun c hc => (plain_ne ((may_parts h).2 c hc)).2.1
theorem words_one {W : Bs} (h : mayW W = true) : wordsR W = [W] := by
  obtain ⟨h1, h2⟩ := may_parts h
  have := words_word (l := []) h1 h2 (fun c t e => by cases e) (fun c hc => by cases hc)
  rw [List.append_nil, words_nil] at this
  exact this
theorem words_int {W : Bs} (h : mayW W = true) : wordsR ([114, 49, 32, 116, 48, 32, 61, 32, 105, 110, 116, 32] ++ W) = lineI W := by
  have h10 := may_no10 h
  have hp : ∀ (p : Bs), p ≠ [] → (p.all isPlain) = true → ∀ r : Bs, (∀ c ∈ r, c ≠ 10) → wordsR (p ++ 32 :: r) = p :: wordsR r := fun p hne hall r hr => by
    rw [words_word hne (fun c hc => List.all_eq_true.1 hall c hc) (fun c t e => by
      have e2 : (32 : UInt8) = c := (List.cons.inj e).1
      rw [← e2]
      decide) (fun c hc => by
      rcases List.mem_cons.1 hc with rfl | hc
      · decide
      · exact hr c hc), words_blank (by decide)]
  have hin : ∀ p : Bs, (p.all fun c => c != 10) = true → ∀ c ∈ p ++ W, c ≠ 10 := fun p hall c hc => by
    rcases List.mem_append.1 hc with hc | hc
    · have := List.all_eq_true.1 hall c hc
      simpa using this
    · exact h10 c hc
  show wordsR ([114, 49] ++ 32 :: ([116, 48, 32, 61, 32, 105, 110, 116, 32] ++ W)) = _
  rw [hp [114, 49] (by decide) (by decide) _ (hin _ (by decide))]
  show _ :: wordsR ([116, 48] ++ 32 :: ([61, 32, 105, 110, 116, 32] ++ W)) = _
  rw [hp [116, 48] (by decide) (by decide) _ (hin _ (by decide))]
  show _ :: _ :: wordsR ([61] ++ 32 :: ([105, 110, 116, 32] ++ W)) = _
  rw [hp [61] (by decide) (by decide) _ (hin _ (by decide))]
  show _ :: _ :: _ :: wordsR ([105, 110, 116] ++ 32 :: ([] ++ W)) = _
  rw [hp [105, 110, 116] (by decide) (by decide) _ (hin _ (by decide)), List.nil_append, words_one h]
  rfl
theorem cut_one {x : UInt8} : ∀ p : Bs, (∀ c ∈ p, c ≠ x) → cutB x p = [p]
  | [], _ => rfl
  | c :: t, h => by
    rw [cut_on (h c List.mem_cons_self), cut_one t (fun d hd => h d (List.mem_cons_of_mem _ hd))]
    rfl
theorem raw_int {W : Bs} (h : mayW W = true) : rawL (textB ++ 10 :: (([114, 49, 32, 116, 48, 32, 61, 32, 105, 110, 116, 32] ++ W) ++ 10 :: [114, 101, 116, 117, 114, 110, 32, 114, 49])) = linesI W := by
  rw [raw_join, raw_join, textB_raw]
  have h1 : rawL ([114, 49, 32, 116, 48, 32, 61, 32, 105, 110, 116, 32] ++ W) = [lineI W] := by
    unfold rawL
    rw [cut_one _ (fun c hc => by
      rcases List.mem_append.1 hc with hc | hc
      · have h2 : ([114, 49, 32, 116, 48, 32, 61, 32, 105, 110, 116, 32] : Bs).all (fun c => c != 10) = true := by decide
        have := List.all_eq_true.1 h2 c hc
        simpa using this
      · exact may_no10 h c hc)]
    show [wordsR _] = _
    rw [words_int h]
  have h2 : rawL [114, 101, 116, 117, 114, 110, 32, 114, 49] = [retI] := by kernel_rfl
  rw [h1, h2]
  rfl
theorem lines_int {W : ByteArray} (h : mayW (toL W) = true) (hs : W.size ≤ 10000) : linesP (toL (textS ++ ((intS ++ W) ++ retS))) = some (linesI (toL W)) := by
  rw [text_int]
  have hr := raw_int h
  have hl : ¬ 16384 < (textB ++ 10 :: (([114, 49, 32, 116, 48, 32, 61, 32, 105, 110, 116, 32] ++ toL W) ++ 10 :: [114, 101, 116, 117, 114, 110, 32, 114, 49])).length := by
    have e : textB.length = 61 := by decide
    rw [List.length_append, List.length_cons, List.length_append, List.length_append, toL_size, e]
    simp only [List.length_cons, List.length_nil]
    omega
  unfold linesP
  rw [if_neg hl]
  rw [raw_of (by rw [hr]; rfl), hr]
  rfl
/-- The program of such a text. -/
def chapN (n : Int) : PProg := ⟨[⟨1, 0, 0, []⟩, ⟨3, 0, 0, []⟩], [⟨1, [⟨[⟨1, 0, 0, 0, 5, [], []⟩], ⟨1, 0, 1, 0⟩⟩, ⟨[⟨1, 0, 0, 0, n, [], []⟩], ⟨3, 1, 0, 0⟩⟩]⟩]⟩
theorem ins_int (W : Bs) : insQ (lineI W) 1 = (match (numP W).map fun n => (n, ([] : List Bs)) with
    | none => none
    | some q => argQ 1 0 0 0 q.1 q.2) := by kernel_rfl
theorem block_int (W : Bs) : blockQ [lineI W, retI] 1 = (numP W).map fun n => ([⟨1, 0, 0, 0, n, [], []⟩], ⟨3, 1, 0, 0⟩, []) := by
  rw [blockQ_cons, if_neg (by show ¬ isEndP [114, 49] = true; decide), ins_int]
  cases numP W with
  | none => rfl
  | some n => kernel_rfl
theorem blocksR_yes {t : List (List Bs)} {reg : Int} {q : List PIns × PEnd × List (List Bs)} (hq : blockQ t reg = some q) : blocksR ([bBlock] :: t) reg = (blocksR q.2.2 (reg + q.1.length)).map fun z : List PBlk × List (List Bs) => ((⟨q.1, q.2.1⟩ : PBlk) :: z.1, z.2) := by
  rw [blocksR_eq, show isBlockP ([bBlock] :: t) = true from rfl, if_pos rfl, if_pos (show (([bBlock] :: t).headD []).length = 1 from rfl)]
  show (match blockQ t reg with
    | some q => (blocksR q.2.2 (reg + q.1.length)).map fun z : List PBlk × List (List Bs) => ((⟨q.1, q.2.1⟩ : PBlk) :: z.1, z.2)
    | none => (none : Option (List PBlk × List (List Bs)))) = _
  rw [hq]
theorem blocksR_no {t : List (List Bs)} {reg : Int} (hq : blockQ t reg = none) : blocksR ([bBlock] :: t) reg = none := by
  rw [blocksR_eq, show isBlockP ([bBlock] :: t) = true from rfl, if_pos rfl, if_pos (show (([bBlock] :: t).headD []).length = 1 from rfl)]
  show (match blockQ t reg with
    | some q => (blocksR q.2.2 (reg + q.1.length)).map fun z : List PBlk × List (List Bs) => ((⟨q.1, q.2.1⟩ : PBlk) :: z.1, z.2)
    | none => (none : Option (List PBlk × List (List Bs)))) = _
  rw [hq]
theorem prog_int (W : Bs) : programQ (linesI W) = (numP W).map chapN := by
  have ht : typesQ (linesI W) = some ([⟨1, 0, 0, []⟩, ⟨3, 0, 0, []⟩], (preI.drop 2) ++ [lineI W, retI]) := by kernel_rfl
  unfold programQ
  rw [ht]
  dsimp only
  show (funsR _ ([[102, 117, 110, 99], [116, 49]] :: ((preI.drop 3) ++ [lineI W, retI]))).map _ = _
  rw [funsR_cons, if_pos (show ([[102, 117, 110, 99], [116, 49]] : List Bs).headD [] = bFunc from rfl)]
  have hf : functionQ [⟨1, 0, 0, []⟩, ⟨3, 0, 0, []⟩] (([[102, 117, 110, 99], [116, 49]] : List Bs).drop 1) ((preI.drop 3) ++ [lineI W, retI]) = (blocksR ((preI.drop 3) ++ [lineI W, retI]) 0).map fun z => ((⟨1, z.1⟩ : PFun), z.2) := by kernel_rfl
  rw [hf]
  have hb : blocksR ((preI.drop 3) ++ [lineI W, retI]) 0 = (blocksR [[[98, 108, 111, 99, 107]], lineI W, retI] 1).map fun z => ((⟨[⟨1, 0, 0, 0, 5, [], []⟩], ⟨1, 0, 1, 0⟩⟩ : PBlk) :: z.1, z.2) := by
    have hq : blockQ ((preI.drop 4) ++ [lineI W, retI]) 0 = some ([⟨1, 0, 0, 0, 5, [], []⟩], ⟨1, 0, 1, 0⟩, [[[98, 108, 111, 99, 107]], lineI W, retI]) := by kernel_rfl
    exact blocksR_yes hq
  have hb2 : blocksR [[[98, 108, 111, 99, 107]], lineI W, retI] 1 = (numP W).map fun n => ([(⟨[⟨1, 0, 0, 0, n, [], []⟩], ⟨3, 1, 0, 0⟩⟩ : PBlk)], ([] : List (List Bs))) := by
    cases hn : numP W with
    | none => exact blocksR_no (by rw [block_int, hn]; rfl)
    | some n =>
      rw [show blocksR [[[98, 108, 111, 99, 107]], lineI W, retI] 1 = _ from blocksR_yes (q := ([⟨1, 0, 0, 0, n, [], []⟩], ⟨3, 1, 0, 0⟩, [])) (by rw [block_int, hn]; rfl)]
      rfl
  rw [hb, hb2]
  cases numP W with
  | none => rfl
  | some n => rfl
theorem check_int (n : Int) : checkP (chapN n) = 0 := by kernel_rfl
theorem readA_int {W : ByteArray} {n : Int} (h : mayW (toL W) = true) (hs : W.size ≤ 10000) (hn : numP (toL W) = some n) : readA (toL (textS ++ ((intS ++ W) ++ retS))) = (chapN n, 0) :=
  readA_ok (lines_int h hs) (by rw [prog_int, hn]; rfl) (check_int n)
theorem odd_int {W : ByteArray} (h : mayW (toL W) = true) (hs : W.size ≤ 10000) (hn : numP (toL W) = none) : oddB (readA (toL (textS ++ ((intS ++ W) ++ retS)))) 70 = true := by
  rw [readA_bad (lines_int h hs) (by rw [prog_int, hn]; rfl)]
  rfl
end Go.Proofs.YtbffebcjimhapaaDoor
