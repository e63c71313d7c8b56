/-
  append of one element of several cells, just laid in a block of its own, onto a row of the call's own.
-/
import Derived.Test.YtohoihicmmidmaaApp
import Derived.OwnWalk
namespace Go.Proofs.Ytohoihicmmidmaa
set_option linter.unusedVariables false
set_option linter.unusedSimpArgs false
open Go.RowKit

theorem wpList_appS {P : Program} {w : World} {ops : Array Oper} {rest : List Oper} {o : Oper} {a : Act} {Q : Exit → Act → World → Prop} (hgd : o.guard = none) (s x : Operand) (t e : TypeId)
    (ho : o.op = .call { callee := .builtin .append, args := #[s, x], argTypes := #[t, t] })
    (i : TypeInfo) (z : Value) (size bytes : Nat) (ht : P.underlying t = some (.slice e)) (hi : P.info? e = some i) (hz : i.zero = some z)
    (hsize : i.size = size) (hby : i.bytes = bytes) (hzs : z.cells.size = size) (hsz : 0 < size)
    (base : Nat) (v : Value) (n : Nat) (xs : List Value) (hs : a.eval s = v) (hown : w.ownsRow base e size v n xs)
    (news : Array Value) (hx : a.eval x = .slice (some ⟨w.heap.size, 0, none⟩) 1 1) (hl : news.size = size) (h1 : ∀ u ∈ news.toList, u.oneCell' = true)
    (hn : n ≤ 1000000) (hbb : bytes ≤ 1000) (hbase : base ≤ w.heap.size)
    (h : ∀ v' w', w'.ownsRow base e size v' (n + 1) (xs ++ news.toList) → (w.alloc (.cells news e)).grownBy w' v.ownBlock → wpList P ops Q rest (a.put o.dst v') w') :
    wpList P ops Q (o :: rest) a (w.alloc (.cells news e)) := by
  refine wpList_app hgd s x t ho base e i z size bytes ht hi hz hsize hby hzs hsz v n xs hs (World.ownsRow.alloc hown _) _ 1 1 news.toList hx (fun h => by cases h) (by rw [Array.length_toList, hl, Nat.one_mul]) ?_ h1 ?_ ?_ ?_ h
  · intro ad had j u hj
    injection had with had
    subst had
    rw [add_lit, Nat.zero_add, World.cell?, show (w.alloc (.cells news e)).heap = w.heap.push (.cells news e) from rfl, Array.getElem?_push_size]
    simpa using hj
  · unfold maxLen; omega
  · have : (n + 1) * bytes ≤ 1000001 * 1000 := Nat.mul_le_mul (by omega) hbb
    omega
  · rw [World.size_alloc]; omega
theorem ownsRow_keep {w w' : World} {lo : Nat} {e : TypeId} {size n : Nat} {v : Value} {xs : List Value} (h : w.ownsRow lo e size v n xs) (hb : Below w.heap.size w w') : w'.ownsRow lo e size v n xs := by
  refine ⟨h.1, ?_⟩
  rcases h.2 with h1 | ⟨g, cap, cur, h1, h2, h3, h4⟩
  · exact .inl h1
  · exact .inr ⟨g, cap, cur, h1, h2, (hb.block g (Array.getElem?_eq_some_iff.1 h3).1).trans h3, h4⟩
theorem ownsRow_more {w : World} {lo lo' : Nat} {e : TypeId} {size n : Nat} {v : Value} {xs : List Value} (h : w.ownsRow lo e size v n xs) (hl : lo' ≤ lo) : w.ownsRow lo' e size v n xs := by
  refine ⟨h.1, ?_⟩
  rcases h.2 with h1 | ⟨g, cap, cur, h1, h2, h3⟩
  · exact .inl h1
  · exact .inr ⟨g, cap, cur, h1, Nat.le_trans hl h2, h3⟩
/-- A row of the call's own, read. -/
theorem ownsRow_form {w : World} {lo : Nat} {e : TypeId} {size n : Nat} {v : Value} {xs : List Value} (h : w.ownsRow lo e size v n xs) (hsz : 0 < size) :
    ∃ A c, v = .slice A n c ∧ n ≤ c ∧ c ≤ maxLen ∧ (A = none → n = 0 ∧ c = 0) ∧ CellsAt w lo w.heap.size A size n fun i j => xs.getD (i * size + j) undef := by
  rcases h.2 with ⟨rfl, rfl⟩ | ⟨g, cap, cur, rfl, hb, hh, hle, hm, hs, htk⟩
  · exact ⟨none, 0, rfl, Nat.le_refl _, by unfold maxLen; omega, fun _ => ⟨rfl, rfl⟩, CellsAt.empty⟩
  · refine ⟨_, cap, rfl, hle, hm, (fun e => by cases e), fun hn => ⟨g, 0, rfl, hb, (Array.getElem?_eq_some_iff.1 hh).1, fun i hi j hj => ?_⟩⟩
    have hij : i * size + j < n * size := by
      have := Nat.mul_le_mul_right size (show i + 1 ≤ n from hi)
      rw [Nat.add_mul, Nat.one_mul] at this
      omega
    have hlen := h.1
    rw [Nat.zero_add, cell_of_row w g (i * size + j) cur e (0, 0) hh, ← Array.getElem?_toList, ← (show (cur.toList.take (n * size))[i * size + j]? = cur.toList[i * size + j]? from by rw [List.getElem?_take, if_pos hij]), htk]
    show _ = some (xs.getD (i * size + j) undef)
    rw [List.getD_eq_getElem?_getD, List.getElem?_eq_getElem (by omega)]
    rfl
end Go.Proofs.Ytohoihicmmidmaa
