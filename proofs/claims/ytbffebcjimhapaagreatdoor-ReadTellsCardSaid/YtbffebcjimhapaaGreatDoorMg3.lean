/-
  append onto a row of the call's own, whatever the source: nil, empty or not; and what becomes of the other blocks.
-/
import Derived.Test.YtbffebcjimhapaaGreatDoorMg1
import Derived.Laws.AppendOwnNone
import Derived.OwnWalk
namespace Go.Proofs.YtbffebcjimhapaaGreatDoor
set_option linter.unusedVariables false
set_option linter.unusedSimpArgs false
open Go.RowKit
theorem wpList_app {P : Program} {w : World} {ops : Array Oper} {rest : List Oper} {o : Oper} {a : Act} {Q : Exit → Act → World → Prop} (hgd : o.guard = none) (s x : Operand) (t : TypeId)
 (ho : o.op = .call { callee := .builtin .append, args := #[s, x], argTypes := #[t, t] })
 (base : Nat) (e : TypeId) (i : TypeInfo) (z : Value) (size bytes : Nat) (ht : P.underlying t = some (.slice e)) (hi : P.info? e = some i) (hz : i.zero = some z)
 (hsize : i.size = size) (hby : i.bytes = bytes) (hzs : z.cells.size = size) (hsz : 0 < size)
 (v : Value) (n : Nat) (xs : List Value) (hs : a.eval s = v) (hown : w.ownsRow base e size v n xs)
 (A : Option Addr) (m c : Nat) (news : List Value) (hx : a.eval x = .slice A m c) (hA : A = none → m = 0 ∧ c = 0) (hl : news.length = m * size)
 (hnews : ∀ ad, A = some ad → ∀ j u, news[j]? = some u → w.cell? (ad.add j) = some u) (h1 : ∀ u ∈ news, u.oneCell' = true)
 (h63 : n + m ≤ maxLen) (hbytes : (n + m) * bytes ≤ 140737488355328) (hbase : base ≤ w.heap.size)
 (h : ∀ v' w', w'.ownsRow base e size v' (n + m) (xs ++ news) → w.grownBy w' v.ownBlock → wpList P ops Q rest (a.put o.dst v') w') : wpList P ops Q (o :: rest) a w := by
 cases A with
 | none =>
   obtain ⟨rfl, rfl⟩ := hA rfl
   have hn : news = [] := List.eq_nil_of_length_eq_zero (by omega)
   subst hn
   exact wpList_append_own_none hgd s x t ho base e i size ht hi v n xs hs hown hx (h v w (by simpa using hown) ⟨rfl, rfl, rfl, Nat.le_refl _, fun _ _ _ => rfl⟩)
 | some ad =>
   exact wpList_append_own _ hgd s x t ho base e i z size bytes ht hi hz hsize hby hzs hsz v n xs hs hown ad m c news hx hl (hnews ad rfl) h1 h63 hbytes hbase fun v' w' h2 h3 _ => h v' w' h2 h3
theorem own_ne {w : World} {g : Nat} {t : TypeId} {cs : Array Value} {base : Nat} {e : TypeId} {size n : Nat} {v : Value} {xs : List Value} (h : w.ownsRow base e size v n xs) (hg : Blk w g t cs) (hne : e ≠ t) : v.ownBlock ≠ some g := by
 rcases h.2 with ⟨rfl, _⟩ | ⟨g', cap, cur, rfl, _, hh, _⟩
 · simp [Value.ownBlock]
 · intro he
   have : g' = g := by simpa [Value.ownBlock] using he
   subst this
   have h' : w.heap[g']? = some (.cells cs t (0, 0)) := hg
   rw [hh] at h'
   injection h' with h'
   injection h' with _ ht _
   exact hne ht
theorem Blk.grown {w w' : World} {g : Nat} {t : TypeId} {cs : Array Value} {row : Option Nat} (h : Blk w g t cs) (hb : w.grownBy w' row) (hg : row ≠ some g) : Blk w' g t cs := (hb.block g h.lt (fun e => hg e.symm)).trans h
theorem own_base {w : World} {base : Nat} {e : TypeId} {size n : Nat} {v : Value} {xs : List Value} (h : w.ownsRow base e size v n xs) : ∀ k, v.ownBlock = some k → base ≤ k := by
 rcases h.2 with ⟨rfl, _⟩ | ⟨g', cap, cur, rfl, hb, hh, _⟩
 · simp [Value.ownBlock]
 · intro k hk
   have : g' = k := by simpa [Value.ownBlock] using hk
   omega
theorem getD_lt {α : Type} {d : α} (l : List α) {i : Nat} (h : i < l.length) : l.getD i d = l[i] := by
 rw [List.getD_eq_getElem?_getD, List.getElem?_eq_getElem h]; rfl
def IntsAt (w : World) (lo B : Nat) (A : Option Addr) (xs : List Int) : Prop := CellsAt w lo B A 1 xs.length fun i _ => .int .i64 (xs.getD i 0)
theorem IntsAt.keep {w w' : World} {lo B : Nat} {A : Option Addr} {xs : List Int} (h : IntsAt w lo B A xs) (hb : Below B w w') : IntsAt w' lo B A xs := CellsAt.keep h hb
theorem IntsAt.more {w : World} {lo lo' B B' : Nat} {A : Option Addr} {xs : List Int} (h : IntsAt w lo B A xs) (h1 : lo' ≤ lo) (h2 : B ≤ B') : IntsAt w lo' B' A xs := CellsAt.more h h1 h2
theorem add_lit (b o j : Nat) : (⟨b, o, none⟩ : Addr).add j = ⟨b, o + j, none⟩ := by
 unfold Addr.add
 split
 · rename_i h; subst h; rfl
 · rfl
theorem IntsAt.news {w : World} {lo B : Nat} {A : Option Addr} {xs : List Int} (h : IntsAt w lo B A xs) : ∀ ad, A = some ad → ∀ j u, (xs.map (Value.int .i64))[j]? = some u → w.cell? (ad.add j) = some u := by
 intro ad hA j u hj
 obtain ⟨hlt, hu⟩ := List.getElem?_eq_some_iff.1 hj
 rw [List.length_map] at hlt
 obtain ⟨b, off, e, _, _, hc⟩ := h (by omega)
 rw [hA] at e
 injection e with e
 subst e
 rw [add_lit]
 have := hc j hlt 0 (by omega)
 rw [Nat.mul_one, Nat.add_zero] at this
 rw [this, ← hu, List.getElem_map]
 exact congrArg (fun z => some (Value.int .i64 z)) (getD_lt xs hlt)
def OwnInts (w : World) (lo : Nat) (v : Value) (xs : List Int) : Prop := w.ownsRow lo 3 1 v xs.length (xs.map (Value.int .i64))
theorem OwnInts.form {w : World} {lo : Nat} {v : Value} {xs : List Int} (h : OwnInts w lo v xs) : ∃ A c, v = .slice A xs.length c ∧ (A = none → xs.length = 0 ∧ c = 0) ∧ IntsAt w lo w.heap.size A xs ∧ xs.length ≤ c ∧ c ≤ maxLen := by
 have h0 := h
 rcases h.2 with ⟨rfl, hn⟩ | ⟨g, cap, cur, rfl, hb, hh, hle, hm, hsz, htk⟩
 · exact ⟨none, 0, by rw [hn], fun _ => ⟨hn, rfl⟩, by unfold IntsAt; rw [hn]; exact CellsAt.empty, by omega, by unfold maxLen; omega⟩
 · refine ⟨_, cap, rfl, (fun e => by cases e), (fun hn => ⟨g, 0, rfl, hb, ?_, fun i hi j hj => ?_⟩), hle, hm⟩
   · exact (Array.getElem?_eq_some_iff.1 hh).1
   · have hj0 : j = 0 := by omega
     subst hj0
     have e1 : w.cell? ⟨g, 0 + i * 1 + 0, none⟩ = cur[i]? := by
      rw [Nat.zero_add, Nat.mul_one, Nat.add_zero]; exact cell_of_row w g i cur _ (0, 0) hh
     rw [e1]
     have e2 : (cur.toList.take (xs.length * 1))[i]? = (xs.map (Value.int .i64))[i]? := by rw [htk]
     rw [List.getElem?_take, if_pos (by omega), List.getElem?_map, List.getElem?_eq_getElem hi] at e2
     rw [← Array.getElem?_toList, e2]
     exact congrArg (fun z => some (Value.int .i64 z)) (getD_lt xs hi).symm
theorem OwnInts.nil (w : World) (lo : Nat) : OwnInts w lo (.slice none 0 0) [] := World.ownsRow_nil _ _ _ _
end Go.Proofs.YtbffebcjimhapaaGreatDoor
