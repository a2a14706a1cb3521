/- Predicates for slices of whole numbers that lie in memory, and how they are kept: no program in sight. -/
import Derived.WalkKit
import Derived.WalkSpells
import Derived.BigQuiet
import Derived.Deep.QuietTactic
import Derived.Deep.AppendLies
import Derived.Deep.Draws
import Derived.Laws.OwnMore
import Derived.Lib.Hide
import Derived.Maps.AppendAt
import Derived.OwnWalk
namespace Go.Proofs.Ytpjomdkcckamkaa
open Go.RowKit

/-- The value '.slice A n c' holds the numbers xs of kind k, in a block from lo on and below hi. -/
structure Ints (w : World) (lo hi : Nat) (k : IntKind) (A : Option Addr) (n : Nat) (xs : List Int) : Prop where
  len : xs.length = n
  wf : ∀ x ∈ xs, k.min ≤ x ∧ x ≤ k.max
  big : n ≤ 9223372036854775807
  row : 0 < n → ∃ b off, A = some ⟨b, off, none⟩ ∧ lo ≤ b ∧ b < hi ∧ ∀ j, j < n → w.cell? ⟨b, off + j, none⟩ = some (.int k (xs[j]?.getD 0)) ∧ w.frozen? ⟨b, off + j, none⟩ = false

section
variable {w w' : World} {lo hi lo' hi' : Nat} {k : IntKind} {A : Option Addr} {n : Nat} {xs : List Int}

theorem Ints.nil_ (w : World) (lo hi : Nat) (k : IntKind) (A : Option Addr) : Ints w lo hi k A 0 [] :=
  ⟨rfl, by simp, by omega, fun h => absurd h (by omega)⟩

theorem Ints.zero (h : Ints w lo hi k A n xs) (h0 : n = 0) : xs = [] := List.eq_nil_of_length_eq_zero (by rw [h.len, h0])

theorem Ints.keep (h : Ints w lo hi k A n xs) (hk : ∀ p : Addr, p.block < hi → w'.cell? p = w.cell? p ∧ w'.frozen? p = w.frozen? p) : Ints w' lo hi k A n xs :=
  ⟨h.len, h.wf, h.big, fun hn => by
    obtain ⟨b, off, e, h1, h2, hc⟩ := h.row hn
    exact ⟨b, off, e, h1, h2, fun j hj => ⟨(hk _ h2).1.trans (hc j hj).1, (hk _ h2).2.trans (hc j hj).2⟩⟩⟩

theorem Ints.more (h : Ints w lo hi k A n xs) (hl : lo' ≤ lo) (hh : hi ≤ hi') : Ints w lo' hi' k A n xs :=
  ⟨h.len, h.wf, h.big, fun hn => by
    obtain ⟨b, off, e, h1, h2, hc⟩ := h.row hn
    exact ⟨b, off, e, by omega, by omega, hc⟩⟩

theorem Ints.below {B : Nat} (h : Ints w lo hi k A n xs) (hb : Below B w w') (hB : hi ≤ B) : Ints w' lo hi k A n xs :=
  h.keep fun p hp => ⟨hb.cell (by omega), hb.frozen (by omega)⟩

theorem Ints.drewN (h : Ints w lo hi k A n xs) (m : Nat) : Ints (w.drewN m) lo hi k A n xs := ⟨h.len, h.wf, h.big, h.row⟩

theorem Ints.alloc (h : Ints w lo hi k A n xs) (hB : hi ≤ w.heap.size) (o : Obj) : Ints (w.alloc o) lo hi k A n xs :=
  h.below ((Below.refl w.heap.size w).alloc (Nat.le_refl _) o) hB

theorem Ints.u32 (h : Ints w lo hi .u32 A n xs) (j : Nat) : 0 ≤ xs[j]?.getD 0 ∧ xs[j]?.getD 0 ≤ 4294967295 := by
  by_cases hj : j < xs.length
  · have hm : xs[j]?.getD 0 ∈ xs := by simp [hj]
    have := h.wf _ hm
    exact ⟨by simpa [IntKind.min, IntKind.signed] using this.1, by simpa [IntKind.max, IntKind.signed, IntKind.bits] using this.2⟩
  · simp [hj]

theorem Ints.take_ (h : Ints w lo hi k A n xs) {m : Nat} (hm : m ≤ n) : Ints w lo hi k A m (xs.take m) := by
  have hl := h.len
  refine ⟨by simp; omega, fun x hx => h.wf x (List.mem_of_mem_take hx), by have := h.big; omega, fun h0 => ?_⟩
  obtain ⟨b, off, e, h1, h2, hc⟩ := h.row (by omega)
  refine ⟨b, off, e, h1, h2, fun j hj => ?_⟩
  rw [List.getElem?_take, if_pos hj]
  exact hc j (by omega)

/-- Out of what the call owns. -/
theorem Ints.of_own {base : Nat} {e : TypeId} {c : Nat} (h : w.ownsRow base e 1 (.slice A n c) n (xs.map (Value.int k))) (hw : ∀ x ∈ xs, k.min ≤ x ∧ x ≤ k.max) (hn : n ≤ 9223372036854775807) : Ints w base w.heap.size k A n xs := by
  have hl : xs.length = n := by simpa using h.1
  refine ⟨hl, hw, hn, fun h0 => ?_⟩
  obtain ⟨_, h2⟩ := h
  rcases h2 with ⟨_, h3⟩ | ⟨g, cap, cur, hv, hg, hh, hnc, hcm, hcs, ht⟩
  · omega
  · injection hv with ha
    refine ⟨g, 0, ha, hg, (Array.getElem?_eq_some_iff.1 hh).1, fun j hj => ⟨?_, by simp [World.frozen?, hh]⟩⟩
    rw [cell_of_row w g _ cur e (0, 0) hh, Nat.zero_add]
    have hx : (xs.map (Value.int k))[j]? = some (.int k (xs[j]?.getD 0)) := by
      simp only [List.getElem?_map]
      rw [List.getElem?_eq_getElem (by omega)]
      rfl
    rw [← ht, List.getElem?_take, if_pos (by omega)] at hx
    simpa using hx

theorem below_drewN {B : Nat} {a : World} (h : Below B a w) (m : Nat) : Below B a (w.drewN m) := ⟨h.os, h.tape, h.output, h.size, h.block⟩
theorem below_of_drewN (B : Nat) (w : World) (m : Nat) : Below B w (w.drewN m) := below_drewN (Below.refl B w) m
end

/-- The value '.slice A n c' (m cells in all) holds the cells cs. -/
structure Raw (w : World) (lo hi : Nat) (A : Option Addr) (m : Nat) (cs : List Value) : Prop where
  len : cs.length = m
  row : 0 < m → ∃ b off, A = some ⟨b, off, none⟩ ∧ lo ≤ b ∧ b < hi ∧ ∀ j, j < m → w.cell? ⟨b, off + j, none⟩ = cs[j]? ∧ w.frozen? ⟨b, off + j, none⟩ = false

theorem Ints.raw {w : World} {lo hi : Nat} {k : IntKind} {A : Option Addr} {n : Nat} {xs : List Int} (h : Ints w lo hi k A n xs) : Raw w lo hi A (n * 1) (xs.map (Value.int k)) := by
  refine ⟨by simp [h.len], fun hn => ?_⟩
  obtain ⟨b, off, e, h1, h2, hc⟩ := h.row (by omega)
  refine ⟨b, off, e, h1, h2, fun j hj => ⟨?_, (hc j (by omega)).2⟩⟩
  rw [(hc j (by omega)).1, List.getElem?_map, List.getElem?_eq_getElem (by have := h.len; omega)]
  rfl

theorem Raw.at_ {w : World} {lo hi : Nat} {ad : Addr} {m : Nat} {cs : List Value} (h : Raw w lo hi (some ad) m cs) : ∀ j u, cs[j]? = some u → w.cell? (ad.add j) = some u := by
  intro j u hu
  have hj : j < m := by
    have := h.len
    rcases Nat.lt_or_ge j cs.length with h' | h'
    · omega
    · rw [List.getElem?_eq_none h'] at hu; cases hu
  obtain ⟨b, off, e, _, _, hc⟩ := h.row (by omega)
  injection e with e
  subst e
  have hadd : (⟨b, off, none⟩ : Addr).add j = ⟨b, off + j, none⟩ := by unfold Addr.add; split <;> simp_all
  rw [hadd, (hc j hj).1, hu]

section
variable {P : Program} (w : World)

theorem run_append_of_nil (base : Nat) (t ty e : TypeId) (i : TypeInfo) (size : Nat) (ht : P.underlying t = some (.slice e)) (hi : P.info? e = some i)
    (v : Value) (n : Nat) (xs : List Value) (hown : w.ownsRow base e size v n xs) (c : Nat) : (Builtin.append_ #[t, t] ty #[v, .slice none 0 c]).run P w = .ok v w := by
  rcases hown.2 with ⟨rfl, rfl⟩ | ⟨g, cap, cur, rfl, _, _, hnc, _⟩
  · simp [Builtin.append_, run_underlying ht, sizeOf, typeInfo, hi, Builtin.lenOf, Builtin.firstCells]
  · simp [Builtin.append_, run_underlying ht, sizeOf, typeInfo, hi, Builtin.lenOf, Builtin.firstCells, hnc, storeCells]

theorem own_shape {base : Nat} {e : TypeId} {size n : Nat} {v : Value} {xs : List Value} {w : World} (h : w.ownsRow base e size v n xs) : ∃ A c, v = .slice A n c ∧ n ≤ c ∧ c ≤ maxLen := by
  rcases h.2 with ⟨rfl, rfl⟩ | ⟨g, cap, cur, rfl, _, _, hnc, hcm, _⟩
  · exact ⟨_, _, rfl, Nat.le_refl _, by simp [maxLen]⟩
  · exact ⟨_, _, rfl, hnc, hcm⟩

theorem own_cap {base : Nat} {e : TypeId} {size n c : Nat} {A : Option Addr} {xs : List Value} {w : World} (h : w.ownsRow base e size (.slice A n c) n xs) : n ≤ c := by
  obtain ⟨A', c', e, h1, _⟩ := own_shape h
  injection e with _ _ e
  omega

/-- append onto what the call owns, whatever is appended. -/
theorem run_append_raw (base : Nat) (t ty e : TypeId) (i : TypeInfo) (z : Value) (size bytes : Nat) (ht : P.underlying t = some (.slice e)) (hi : P.info? e = some i) (hz : i.zero = some z)
    (hsize : i.size = size) (hby : i.bytes = bytes) (hzs : z.cells.size = size) (hsz : 0 < size)
    (v : Value) (n : Nat) (xs : List Value) (hown : w.ownsRow base e size v n xs)
    (lo hi' : Nat) (A : Option Addr) (m c : Nat) (news : List Value) (hr : Raw w lo hi' A (m * size) news) (h1 : ∀ u ∈ news, u.oneCell' = true)
    (h63 : n + m ≤ maxLen) (hbytes : (n + m) * bytes ≤ 140737488355328) (hbase : base ≤ w.heap.size) :
    ∃ A' c' w', (Builtin.append_ #[t, t] ty #[v, .slice A m c]).run P w = .ok (.slice A' (n + m) c') w' ∧ w'.ownsRow base e size (.slice A' (n + m) c') (n + m) (xs ++ news) ∧ w.grownBy w' v.ownBlock ∧
      ((Value.slice A' (n + m) c').ownBlock = v.ownBlock ∨ (Value.slice A' (n + m) c').ownBlock = some w.heap.size) := by
  rcases A with _ | ad
  · have hm : m = 0 := by
      rcases Nat.eq_zero_or_pos (m * size) with h0 | h0
      · rcases Nat.mul_eq_zero.1 h0 with h0 | h0 <;> omega
      · obtain ⟨b, off, h, _⟩ := hr.row h0
        cases h
    subst hm
    have hn : news = [] := List.eq_nil_of_length_eq_zero (by simpa using hr.len)
    subst hn
    have hrun := run_append_of_nil (P := P) w base t ty e i size ht hi v n xs hown c
    obtain ⟨A', c', rfl, _⟩ := own_shape hown
    exact ⟨A', c', w, hrun, by simpa using hown, World.grownBy.refl w _, .inl rfl⟩
  · obtain ⟨v', w', hrun, h2, h3, _, h5⟩ := run_append_own_at (P := P) w base t ty e i z size bytes ht hi hz hsize hby hzs hsz v n xs hown ad m c news hr.len hr.at_ h1 h63 hbytes hbase
    obtain ⟨A', c', rfl, _⟩ := own_shape h2
    exact ⟨A', c', w', hrun, h2, h3, h5⟩

theorem wpList_append_raw {ops : Array Oper} {rest : List Oper} {o : Oper} {a : Act} {Q : Exit → Act → World → Prop} (hgd : o.guard = none) (s x : Operand) (t : TypeId)
    (ho : o.op = .call { callee := .builtin .append, args := #[s, x], argTypes := #[t, t] })
    (base : Nat) (e : TypeId) (i : TypeInfo) (z : Value) (size bytes : Nat) (ht : P.underlying t = some (.slice e)) (hi : P.info? e = some i) (hz : i.zero = some z)
    (hsize : i.size = size) (hby : i.bytes = bytes) (hzs : z.cells.size = size) (hsz : 0 < size)
    (v : Value) (n : Nat) (xs : List Value) (hs : a.eval s = v) (hown : w.ownsRow base e size v n xs)
    (lo hi' : Nat) (A : Option Addr) (m c : Nat) (news : List Value) (hx : a.eval x = .slice A m c) (hr : Raw w lo hi' A (m * size) news) (h1 : ∀ u ∈ news, u.oneCell' = true)
    (h63 : n + m ≤ maxLen) (hbytes : (n + m) * bytes ≤ 140737488355328) (hbase : base ≤ w.heap.size)
    (h : ∀ A' c' w', w'.ownsRow base e size (.slice A' (n + m) c') (n + m) (xs ++ news) → w.grownBy w' v.ownBlock → ((Value.slice A' (n + m) c').ownBlock = v.ownBlock ∨ (Value.slice A' (n + m) c').ownBlock = some w.heap.size) →
      wpList P ops Q rest (a.put o.dst (.slice A' (n + m) c')) w') :
    wpList P ops Q (o :: rest) a w := by
  refine wpList_plain hgd fun K hK => ?_
  obtain ⟨A', c', w', hr, h2, h3, h5⟩ := run_append_raw (P := P) w base t o.type e i z size bytes ht hi hz hsize hby hzs hsz v n xs hown lo hi' A m c news hr h1 h63 hbytes hbase
  unfold Oper.wp execOp
  simp only [ho, resolve, invoke, builtin, Sem.run_bind, Sem.run_pure, Result.andThen_ok, List.map_toArray, List.map_cons, List.map_nil, hs, hx, hr]
  exact hK _ _ (h A' c' w' h2 h3 h5)
end

/-- Block g has n cells at least, none of them frozen. -/
def Writable (w : World) (g n : Nat) : Prop := ∃ cur t, w.heap[g]? = some (.cells cur t (0, 0)) ∧ n ≤ cur.size
theorem Writable.cell {w : World} {g n k : Nat} (h : Writable w g n) (hk : k < n) : ∃ v, w.cell? ⟨g, k, none⟩ = some v ∧ w.frozen? ⟨g, k, none⟩ = false := by
  obtain ⟨cur, t, h1, h2⟩ := h
  refine ⟨cur[k], ?_, by simp [World.frozen?, h1]⟩
  rw [cell_of_row w g k cur t (0, 0) h1, Array.getElem?_eq_getElem (by omega)]
theorem Writable.set_ {w : World} {g n k : Nat} (h : Writable w g n) (v : Value) : Writable (w.setCell ⟨g, k, none⟩ v) g n := by
  obtain ⟨cur, t, h1, h2⟩ := h
  exact ⟨cur.setIfInBounds k v, t, by simp [World.setCell, Array.getElem?_modify, h1], by simpa using h2⟩
theorem Writable.below {w w' : World} {g n B : Nat} (h : Writable w g n) (hb : Below B w w') (hg : g < B) : Writable w' g n := by
  obtain ⟨cur, t, h1, h2⟩ := h
  exact ⟨cur, t, (hb.block g hg).trans h1, h2⟩
theorem Writable.of_own {w : World} {base : Nat} {e : TypeId} {A : Option Addr} {n c : Nat} {xs : List Value} (h : w.ownsRow base e 1 (.slice A n c) n xs) (hn : 0 < n) :
    ∃ g, A = some ⟨g, 0, none⟩ ∧ base ≤ g ∧ g < w.heap.size ∧ Writable w g n := by
  rcases h.2 with ⟨_, h0⟩ | ⟨g, cap, cur, hv, hb, hg, hnc, _, hcs, _⟩
  · omega
  · injection hv with hv
    exact ⟨g, hv, hb, (Array.getElem?_eq_some_iff.1 hg).1, cur, e, hg, by omega⟩

/-- An empty slice that is made. -/
theorem own_empty (w : World) (base : Nat) (e : TypeId) (size : Nat) (h : base ≤ w.heap.size) : (w.alloc (.cells #[] e)).ownsRow base e size (.slice (some ⟨w.heap.size, 0, none⟩) 0 0) 0 [] :=
  World.ownsRow_made w #[] 0 h (by simp [maxLen]) (by simp)

/-- One number that is laid in a block of its own, to be appended. -/
theorem raw_one (w : World) (k : IntKind) (x : Int) (t : TypeId) : Raw (w.alloc (.cells #[.int k x] t)) w.heap.size (w.heap.size + 1) (some ⟨w.heap.size, 0, none⟩) (1 * 1) [.int k x] := by
  refine ⟨rfl, fun _ => ⟨w.heap.size, 0, rfl, Nat.le_refl _, by omega, fun j hj => ?_⟩⟩
  obtain rfl : j = 0 := by omega
  simp [go_sem]
/-- What a list is when a slot is laid: three rules in one (short names: a claim's texts have a limit). -/
theorem zp {α : Type} : (∀ (l : List α) (i : Nat) (a : α), l.toArray.setIfInBounds i a = (l.set i a).toArray) ∧ (∀ (x y : α) (l : List α), (x :: l).set 0 y = y :: l) ∧ ∀ (x y : α) (l : List α) (n : Nat), (x :: l).set (n + 1) y = x :: l.set n y :=
  ⟨fun l i a => List.setIfInBounds_toArray l i a, fun _ _ _ => rfl, fun _ _ _ _ => rfl⟩
abbrev zT : Bool := true
abbrev zF : Bool := false
end Go.Proofs.Ytpjomdkcckamkaa
