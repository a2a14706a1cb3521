/- Predicates for slices of whole numbers that lie in memory, and how they are kept: no program in sight. -/
/- Numbers as lists of digits, the lowest first: no program in sight. -/
/- What the reference's functions of bits do, by walks. -/
/- The numbers of dyads, and what is reckoned with them: no program in sight. -/
/- Limbs: digits, shifts, sums in place, the lowest and the highest bit: no program in sight. -/
/- Whether limbs, and dyads, may be: walks. -/
/- A dyad's limbs, shifted, in a long array: a walk. -/
/- How two long numbers stand: a walk. -/
import Derived.WalkKit
import Derived.WalkSpells
import Derived.BigQuiet
import Derived.Deep.QuietTactic
import Derived.Deep.AppendLies
import Derived.Deep.Draws
import Derived.Laws.OwnMore
import Derived.Lib.Hide
import Derived.Maps.AppendAt
import Derived.OwnWalk
import Derived.Test.YtbbnbgllgomolaaProg
import Derived.IntWalk
import Derived.Laws.BitsAllLaws
import Derived.Shelf.Spec.TrailingZeros
import Derived.Lib.BitFns
import Derived.Deep.WholeRow
import Derived.Deep.MidRow
import Derived.Outline
namespace Go.Proofs.Ytbbnbgllgomolaa
open Go.RowKit
/-- The value '.slice A n c' holds the numbers xs of kind k, in a block from lo on and below hi. -/
structure Ints (w : World) (lo hi : Nat) (k : IntKind) (A : Option Addr) (n : Nat) (xs : List Int) : Prop where
 len : xs.length = n
 wf : ∀ x ∈ xs, k.min ≤ x ∧ x ≤ k.max
 big : n ≤ 9223372036854775807
 row : 0 < n → ∃ b off, A = some ⟨b, off, none⟩ ∧ lo ≤ b ∧ b < hi ∧ ∀ j, j < n → w.cell? ⟨b, off + j, none⟩ = some (.int k (xs[j]?.getD 0)) ∧ w.frozen? ⟨b, off + j, none⟩ = false
section
variable {w w' : World} {lo hi lo' hi' : Nat} {k : IntKind} {A : Option Addr} {n : Nat} {xs : List Int}
theorem Ints.nil_ (w : World) (lo hi : Nat) (k : IntKind) (A : Option Addr) : Ints w lo hi k A 0 [] :=
 ⟨rfl, by simp, by omega, fun h => absurd h (by omega)⟩
theorem Ints.zero (h : Ints w lo hi k A n xs) (h0 : n = 0) : xs = [] := List.eq_nil_of_length_eq_zero (by rw [h.len, h0])
theorem Ints.keep (h : Ints w lo hi k A n xs) (hk : ∀ p : Addr, p.block < hi → w'.cell? p = w.cell? p ∧ w'.frozen? p = w.frozen? p) : Ints w' lo hi k A n xs :=
 ⟨h.len, h.wf, h.big, fun hn => by
  obtain ⟨b, off, e, h1, h2, hc⟩ := h.row hn
  exact ⟨b, off, e, h1, h2, fun j hj => ⟨(hk _ h2).1.trans (hc j hj).1, (hk _ h2).2.trans (hc j hj).2⟩⟩⟩
theorem Ints.more (h : Ints w lo hi k A n xs) (hl : lo' ≤ lo) (hh : hi ≤ hi') : Ints w lo' hi' k A n xs :=
 ⟨h.len, h.wf, h.big, fun hn => by
  obtain ⟨b, off, e, h1, h2, hc⟩ := h.row hn
  exact ⟨b, off, e, by omega, by omega, hc⟩⟩
theorem Ints.below {B : Nat} (h : Ints w lo hi k A n xs) (hb : Below B w w') (hB : hi ≤ B) : Ints w' lo hi k A n xs :=
 h.keep fun p hp => ⟨hb.cell (by omega), hb.frozen (by omega)⟩
theorem Ints.drewN (h : Ints w lo hi k A n xs) (m : Nat) : Ints (w.drewN m) lo hi k A n xs := ⟨h.len, h.wf, h.big, h.row⟩
theorem Ints.alloc (h : Ints w lo hi k A n xs) (hB : hi ≤ w.heap.size) (o : Obj) : Ints (w.alloc o) lo hi k A n xs :=
 h.below ((Below.refl w.heap.size w).alloc (Nat.le_refl _) o) hB
theorem Ints.u32 (h : Ints w lo hi .u32 A n xs) (j : Nat) : 0 ≤ xs[j]?.getD 0 ∧ xs[j]?.getD 0 ≤ 4294967295 := by
 by_cases hj : j < xs.length
 · have hm : xs[j]?.getD 0 ∈ xs := by simp [hj]
   have := h.wf _ hm
   exact ⟨by simpa [IntKind.min, IntKind.signed] using this.1, by simpa [IntKind.max, IntKind.signed, IntKind.bits] using this.2⟩
 · simp [hj]
theorem Ints.take_ (h : Ints w lo hi k A n xs) {m : Nat} (hm : m ≤ n) : Ints w lo hi k A m (xs.take m) := by
 have hl := h.len
 refine ⟨by simp; omega, fun x hx => h.wf x (List.mem_of_mem_take hx), by have := h.big; omega, fun h0 => ?_⟩
 obtain ⟨b, off, e, h1, h2, hc⟩ := h.row (by omega)
 refine ⟨b, off, e, h1, h2, fun j hj => ?_⟩
 rw [List.getElem?_take, if_pos hj]
 exact hc j (by omega)
/-- Out of what the call owns. -/
theorem Ints.of_own {base : Nat} {e : TypeId} {c : Nat} (h : w.ownsRow base e 1 (.slice A n c) n (xs.map (Value.int k))) (hw : ∀ x ∈ xs, k.min ≤ x ∧ x ≤ k.max) (hn : n ≤ 9223372036854775807) : Ints w base w.heap.size k A n xs := by
 have hl : xs.length = n := by simpa using h.1
 refine ⟨hl, hw, hn, fun h0 => ?_⟩
 obtain ⟨_, h2⟩ := h
 rcases h2 with ⟨_, h3⟩ | ⟨g, cap, cur, hv, hg, hh, hnc, hcm, hcs, ht⟩
 · omega
 · injection hv with ha
   refine ⟨g, 0, ha, hg, (Array.getElem?_eq_some_iff.1 hh).1, fun j hj => ⟨?_, by simp [World.frozen?, hh]⟩⟩
   rw [cell_of_row w g _ cur e (0, 0) hh, Nat.zero_add]
   have hx : (xs.map (Value.int k))[j]? = some (.int k (xs[j]?.getD 0)) := by
    simp only [List.getElem?_map]
    rw [List.getElem?_eq_getElem (by omega)]
    rfl
   rw [← ht, List.getElem?_take, if_pos (by omega)] at hx
   simpa using hx
theorem below_drewN {B : Nat} {a : World} (h : Below B a w) (m : Nat) : Below B a (w.drewN m) := ⟨h.os, h.tape, h.output, h.size, h.block⟩
end
/-- The value '.slice A n c' (m cells in all) holds the cells cs. -/
structure Raw (w : World) (lo hi : Nat) (A : Option Addr) (m : Nat) (cs : List Value) : Prop where
 len : cs.length = m
 row : 0 < m → ∃ b off, A = some ⟨b, off, none⟩ ∧ lo ≤ b ∧ b < hi ∧ ∀ j, j < m → w.cell? ⟨b, off + j, none⟩ = cs[j]? ∧ w.frozen? ⟨b, off + j, none⟩ = false
theorem Ints.raw {w : World} {lo hi : Nat} {k : IntKind} {A : Option Addr} {n : Nat} {xs : List Int} (h : Ints w lo hi k A n xs) : Raw w lo hi A (n * 1) (xs.map (Value.int k)) := by
 refine ⟨by simp [h.len], fun hn => ?_⟩
 obtain ⟨b, off, e, h1, h2, hc⟩ := h.row (by omega)
 refine ⟨b, off, e, h1, h2, fun j hj => ⟨?_, (hc j (by omega)).2⟩⟩
 rw [(hc j (by omega)).1, List.getElem?_map, List.getElem?_eq_getElem (by have := h.len; omega)]
 rfl
theorem Raw.at_ {w : World} {lo hi : Nat} {ad : Addr} {m : Nat} {cs : List Value} (h : Raw w lo hi (some ad) m cs) : ∀ j u, cs[j]? = some u → w.cell? (ad.add j) = some u := by
 intro j u hu
 have hj : j < m := by
  have := h.len
  rcases Nat.lt_or_ge j cs.length with h' | h'
  · omega
  · rw [List.getElem?_eq_none h'] at hu; cases hu
 obtain ⟨b, off, e, _, _, hc⟩ := h.row (by omega)
 injection e with e
 subst e
 have hadd : (⟨b, off, none⟩ : Addr).add j = ⟨b, off + j, none⟩ := by unfold Addr.add; split <;> simp_all
 rw [hadd, (hc j hj).1, hu]
section
variable {P : Program} (w : World)
theorem run_append_of_nil (base : Nat) (t ty e : TypeId) (i : TypeInfo) (size : Nat) (ht : P.underlying t = some (.slice e)) (hi : P.info? e = some i)
  (v : Value) (n : Nat) (xs : List Value) (hown : w.ownsRow base e size v n xs) (c : Nat) : (Builtin.append_ #[t, t] ty #[v, .slice none 0 c]).run P w = .ok v w := by
 rcases hown.2 with ⟨rfl, rfl⟩ | ⟨g, cap, cur, rfl, _, _, hnc, _⟩
 · simp [Builtin.append_, run_underlying ht, sizeOf, typeInfo, hi, Builtin.lenOf, Builtin.firstCells]
 · simp [Builtin.append_, run_underlying ht, sizeOf, typeInfo, hi, Builtin.lenOf, Builtin.firstCells, hnc, storeCells]
theorem own_shape {base : Nat} {e : TypeId} {size n : Nat} {v : Value} {xs : List Value} {w : World} (h : w.ownsRow base e size v n xs) : ∃ A c, v = .slice A n c ∧ n ≤ c ∧ c ≤ maxLen := by
 rcases h.2 with ⟨rfl, rfl⟩ | ⟨g, cap, cur, rfl, _, _, hnc, hcm, _⟩
 · exact ⟨_, _, rfl, Nat.le_refl _, by simp [maxLen]⟩
 · exact ⟨_, _, rfl, hnc, hcm⟩
theorem own_cap {base : Nat} {e : TypeId} {size n c : Nat} {A : Option Addr} {xs : List Value} {w : World} (h : w.ownsRow base e size (.slice A n c) n xs) : n ≤ c := by
 obtain ⟨A', c', e, h1, _⟩ := own_shape h
 injection e with _ _ e
 omega
/-- append onto what the call owns, whatever is appended. -/
theorem run_append_raw (base : Nat) (t ty e : TypeId) (i : TypeInfo) (z : Value) (size bytes : Nat) (ht : P.underlying t = some (.slice e)) (hi : P.info? e = some i) (hz : i.zero = some z)
  (hsize : i.size = size) (hby : i.bytes = bytes) (hzs : z.cells.size = size) (hsz : 0 < size)
  (v : Value) (n : Nat) (xs : List Value) (hown : w.ownsRow base e size v n xs)
  (lo hi' : Nat) (A : Option Addr) (m c : Nat) (news : List Value) (hr : Raw w lo hi' A (m * size) news) (h1 : ∀ u ∈ news, u.oneCell' = true)
  (h63 : n + m ≤ maxLen) (hbytes : (n + m) * bytes ≤ 140737488355328) (hbase : base ≤ w.heap.size) :
  ∃ A' c' w', (Builtin.append_ #[t, t] ty #[v, .slice A m c]).run P w = .ok (.slice A' (n + m) c') w' ∧ w'.ownsRow base e size (.slice A' (n + m) c') (n + m) (xs ++ news) ∧ w.grownBy w' v.ownBlock ∧
   ((Value.slice A' (n + m) c').ownBlock = v.ownBlock ∨ (Value.slice A' (n + m) c').ownBlock = some w.heap.size) := by
 rcases A with _ | ad
 · have hm : m = 0 := by
     rcases Nat.eq_zero_or_pos (m * size) with h0 | h0
     · rcases Nat.mul_eq_zero.1 h0 with h0 | h0 <;> omega
     · obtain ⟨b, off, h, _⟩ := hr.row h0
       cases h
   subst hm
   have hn : news = [] := List.eq_nil_of_length_eq_zero (by simpa using hr.len)
   subst hn
   have hrun := run_append_of_nil (P := P) w base t ty e i size ht hi v n xs hown c
   obtain ⟨A', c', rfl, _⟩ := own_shape hown
   exact ⟨A', c', w, hrun, by simpa using hown, World.grownBy.refl w _, .inl rfl⟩
 · obtain ⟨v', w', hrun, h2, h3, _, h5⟩ := run_append_own_at (P := P) w base t ty e i z size bytes ht hi hz hsize hby hzs hsz v n xs hown ad m c news hr.len hr.at_ h1 h63 hbytes hbase
   obtain ⟨A', c', rfl, _⟩ := own_shape h2
   exact ⟨A', c', w', hrun, h2, h3, h5⟩
theorem wpList_append_raw {ops : Array Oper} {rest : List Oper} {o : Oper} {a : Act} {Q : Exit → Act → World → Prop} (hgd : o.guard = none) (s x : Operand) (t : TypeId)
  (ho : o.op = .call { callee := .builtin .append, args := #[s, x], argTypes := #[t, t] })
  (base : Nat) (e : TypeId) (i : TypeInfo) (z : Value) (size bytes : Nat) (ht : P.underlying t = some (.slice e)) (hi : P.info? e = some i) (hz : i.zero = some z)
  (hsize : i.size = size) (hby : i.bytes = bytes) (hzs : z.cells.size = size) (hsz : 0 < size)
  (v : Value) (n : Nat) (xs : List Value) (hs : a.eval s = v) (hown : w.ownsRow base e size v n xs)
  (lo hi' : Nat) (A : Option Addr) (m c : Nat) (news : List Value) (hx : a.eval x = .slice A m c) (hr : Raw w lo hi' A (m * size) news) (h1 : ∀ u ∈ news, u.oneCell' = true)
  (h63 : n + m ≤ maxLen) (hbytes : (n + m) * bytes ≤ 140737488355328) (hbase : base ≤ w.heap.size)
  (h : ∀ A' c' w', w'.ownsRow base e size (.slice A' (n + m) c') (n + m) (xs ++ news) → w.grownBy w' v.ownBlock → ((Value.slice A' (n + m) c').ownBlock = v.ownBlock ∨ (Value.slice A' (n + m) c').ownBlock = some w.heap.size) →
   wpList P ops Q rest (a.put o.dst (.slice A' (n + m) c')) w') :
  wpList P ops Q (o :: rest) a w := by
 refine wpList_plain hgd fun K hK => ?_
 obtain ⟨A', c', w', hr, h2, h3, h5⟩ := run_append_raw (P := P) w base t o.type e i z size bytes ht hi hz hsize hby hzs hsz v n xs hown lo hi' A m c news hr h1 h63 hbytes hbase
 unfold Oper.wp execOp
 simp only [ho, resolve, invoke, builtin, Sem.run_bind, Sem.run_pure, Result.andThen_ok, List.map_toArray, List.map_cons, List.map_nil, hs, hx, hr]
 exact hK _ _ (h A' c' w' h2 h3 h5)
end
/-- Block g has n cells at least, none of them frozen. -/
def Writable (w : World) (g n : Nat) : Prop := ∃ cur t, w.heap[g]? = some (.cells cur t (0, 0)) ∧ n ≤ cur.size
theorem Writable.cell {w : World} {g n k : Nat} (h : Writable w g n) (hk : k < n) : ∃ v, w.cell? ⟨g, k, none⟩ = some v ∧ w.frozen? ⟨g, k, none⟩ = false := by
 obtain ⟨cur, t, h1, h2⟩ := h
 refine ⟨cur[k], ?_, by simp [World.frozen?, h1]⟩
 rw [cell_of_row w g k cur t (0, 0) h1, Array.getElem?_eq_getElem (by omega)]
theorem Writable.below {w w' : World} {g n B : Nat} (h : Writable w g n) (hb : Below B w w') (hg : g < B) : Writable w' g n := by
 obtain ⟨cur, t, h1, h2⟩ := h
 exact ⟨cur, t, (hb.block g hg).trans h1, h2⟩
theorem Writable.of_own {w : World} {base : Nat} {e : TypeId} {A : Option Addr} {n c : Nat} {xs : List Value} (h : w.ownsRow base e 1 (.slice A n c) n xs) (hn : 0 < n) :
  ∃ g, A = some ⟨g, 0, none⟩ ∧ base ≤ g ∧ g < w.heap.size ∧ Writable w g n := by
 rcases h.2 with ⟨_, h0⟩ | ⟨g, cap, cur, hv, hb, hg, hnc, _, hcs, _⟩
 · omega
 · injection hv with hv
   exact ⟨g, hv, hb, (Array.getElem?_eq_some_iff.1 hg).1, cur, e, hg, by omega⟩
/-- An empty slice that is made. -/
theorem own_empty (w : World) (base : Nat) (e : TypeId) (size : Nat) (h : base ≤ w.heap.size) : (w.alloc (.cells #[] e)).ownsRow base e size (.slice (some ⟨w.heap.size, 0, none⟩) 0 0) 0 [] :=
 World.ownsRow_made w #[] 0 h (by simp [maxLen]) (by simp)
/-- What a list is when a slot is laid: three rules in one (short names: a claim's texts have a limit). -/
theorem zp {α : Type} : (∀ (l : List α) (i : Nat) (a : α), l.toArray.setIfInBounds i a = (l.set i a).toArray) ∧ (∀ (x y : α) (l : List α), (x :: l).set 0 y = y :: l) ∧ ∀ (x y : α) (l : List α) (n : Nat), (x :: l).set (n + 1) y = x :: l.set n y :=
 ⟨fun l i a => List.setIfInBounds_toArray l i a, fun _ _ _ => rfl, fun _ _ _ _ => rfl⟩
abbrev zT : Bool := true
abbrev zF : Bool := false
end Go.Proofs.Ytbbnbgllgomolaa
namespace Go.Proofs.Ytbbnbgllgomolaa
/-- The number of some digits. -/
def num (B : Nat) : List Int → Nat
 | [] => 0
 | x :: xs => x.toNat + B * num B xs
/-- Digits below B. -/
def Dig (B : Nat) (l : List Int) : Prop := ∀ x ∈ l, 0 ≤ x ∧ x < (B : Int)
/-- No 0 at the end. -/
def Cutd (l : List Int) : Prop := ∀ h : l ≠ [], l.getLast h ≠ 0
/-- A number's digits. -/
def canonF (B : Nat) : Nat → Nat → List Int
 | 0, _ => []
 | f + 1, n => if n = 0 then [] else ((n % B : Nat) : Int) :: canonF B f (n / B)
def canon (B n : Nat) : List Int := canonF B n n
theorem num_append (B : Nat) : ∀ (l m : List Int), num B (l ++ m) = num B l + B ^ l.length * num B m
 | [], m => by simp [num]
 | x :: l, m => by
  simp only [List.cons_append, num, num_append B l m, List.length_cons, Nat.pow_succ]
  rw [Nat.mul_add, ← Nat.mul_assoc, Nat.mul_comm B (B ^ l.length)]
  omega
theorem num_lt (B : Nat) (hB : 0 < B) : ∀ (l : List Int), Dig B l → num B l < B ^ l.length
 | [], _ => by simp [num]
 | x :: l, h => by
  have ih := num_lt B hB l fun y hy => h y (List.mem_cons_of_mem _ hy)
  have hx := h x (List.mem_cons_self ..)
  simp only [num, List.length_cons, Nat.pow_succ]
  have h1 : B * num B l + B ≤ B * B ^ l.length := by
   rw [← Nat.mul_succ]
   exact Nat.mul_le_mul_left _ ih
  rw [Nat.mul_comm (B ^ l.length) B]
  omega
theorem Dig.append {B : Nat} {l m : List Int} (h : Dig B l) (k : Dig B m) : Dig B (l ++ m) := fun x hx => by
 rcases List.mem_append.1 hx with h' | h'
 · exact h x h'
 · exact k x h'
theorem Dig.tail {B : Nat} {x : Int} {l : List Int} (h : Dig B (x :: l)) : Dig B l := fun y hy => h y (List.mem_cons_of_mem _ hy)
theorem Cutd.tail {x : Int} {l : List Int} (h : Cutd (x :: l)) : Cutd l := fun hne => by
 have := h (by simp)
 rwa [List.getLast_cons hne] at this
theorem num_pos {B : Nat} : ∀ {l : List Int}, Dig B l → Cutd l → l ≠ [] → 0 < num B l
 | [x], hd, hc, _ => by
  have h1 := hc (by simp)
  have h2 := hd x (by simp)
  simp only [num]
  simp only [List.getLast_singleton] at h1
  omega
 | x :: y :: l, hd, hc, _ => by
  have ih := num_pos hd.tail hc.tail (by simp)
  have hB : 0 < B := by
   have := hd x (by simp)
   omega
  simp only [num] at ih ⊢
  have := Nat.mul_pos hB ih
  omega
/-- Two lists of digits without 0 at the end are one, if their numbers are. -/
theorem num_inj {B : Nat} : ∀ {l m : List Int}, Dig B l → Dig B m → Cutd l → Cutd m → num B l = num B m → l = m
 | [], [], _, _, _, _, _ => rfl
 | [], y :: m, _, hm, _, cm, h => by have := num_pos hm cm (by simp); simp only [num] at h this; omega
 | x :: l, [], hl, _, cl, _, h => by have := num_pos hl cl (by simp); simp only [num] at h this; omega
 | x :: l, y :: m, hl, hm, cl, cm, h => by
  have hx := hl x (by simp)
  have hy := hm y (by simp)
  simp only [num] at h
  have e1 : x.toNat = y.toNat := by
   have h1 : (x.toNat + B * num B l) % B = x.toNat := by rw [Nat.add_mul_mod_self_left, Nat.mod_eq_of_lt (by omega)]
   have h2 : (y.toNat + B * num B m) % B = y.toNat := by rw [Nat.add_mul_mod_self_left, Nat.mod_eq_of_lt (by omega)]
   rw [← h1, ← h2, h]
  have e2 : num B l = num B m := by
   have : B * num B l = B * num B m := by omega
   exact Nat.eq_of_mul_eq_mul_left (by omega) this
  rw [num_inj hl.tail hm.tail cl.tail cm.tail e2]
  congr 1
  omega
theorem canonF_spec (B : Nat) (hB : 2 ≤ B) : ∀ (f n : Nat), n ≤ f → Dig B (canonF B f n) ∧ Cutd (canonF B f n) ∧ num B (canonF B f n) = n
 | 0, n, h => by
  obtain rfl : n = 0 := by omega
  exact ⟨fun x hx => by simp [canonF] at hx, fun h => absurd rfl h, rfl⟩
 | f + 1, n, h => by
  by_cases h0 : n = 0
  · subst h0
    exact ⟨fun x hx => by simp [canonF] at hx, fun h => absurd (by simp [canonF]) h, by simp [canonF, num]⟩
  · have hlt : n / B < n := Nat.div_lt_self (by omega) (by omega)
    obtain ⟨i1, i2, i3⟩ := canonF_spec B hB f (n / B) (by omega)
    have e : canonF B (f + 1) n = ((n % B : Nat) : Int) :: canonF B f (n / B) := by simp [canonF, h0]
    rw [e]
    have hm := Nat.mod_lt n (show 0 < B by omega)
    refine ⟨fun x hx => ?_, fun hne => ?_, ?_⟩
    · rcases List.mem_cons.1 hx with rfl | hx
      · omega
      · exact i1 x hx
    · by_cases hn : canonF B f (n / B) = []
      · have h3 : n / B = 0 := by rw [← i3, hn]; rfl
        have h4 := Nat.div_add_mod n B
        rw [h3] at h4
        simp only [hn, List.getLast_singleton]
        omega
      · rw [List.getLast_cons hn]
        exact i2 hn
    · simp only [num, i3, Int.toNat_natCast]
      exact Nat.mod_add_div n B
theorem canon_spec (B n : Nat) (hB : 2 ≤ B) : Dig B (canon B n) ∧ Cutd (canon B n) ∧ num B (canon B n) = n := canonF_spec B hB n n (Nat.le_refl _)
theorem canon_of {B n : Nat} {l : List Int} (hB : 2 ≤ B) (hd : Dig B l) (hc : Cutd l) (hn : num B l = n) : l = canon B n := by
 obtain ⟨h1, h2, h3⟩ := canon_spec B n hB
 exact num_inj hd h1 hc h2 (hn.trans h3.symm)
theorem canon_zero (B : Nat) : canon B 0 = [] := rfl
theorem canon_nil {B n : Nat} (hB : 2 ≤ B) (h : canon B n = []) : n = 0 := by
 obtain ⟨_, _, h3⟩ := canon_spec B n hB
 rw [h] at h3
 exact h3.symm
/-- A number has as many digits as its size asks. -/
theorem canon_len {B n k : Nat} (hB : 2 ≤ B) (h : n < B ^ k) : (canon B n).length ≤ k := by
 obtain ⟨h1, h2, h3⟩ := canon_spec B n hB
 rcases Nat.lt_or_ge k (canon B n).length with hk | hk
 · exfalso
   have hne : canon B n ≠ [] := fun e => by rw [e] at hk; simp at hk
   have hl := h2 hne
   have hsplit : canon B n = (canon B n).dropLast ++ [(canon B n).getLast hne] := (List.dropLast_concat_getLast hne).symm
   have hn : num B (canon B n) = num B (canon B n).dropLast + B ^ (canon B n).dropLast.length * ((canon B n).getLast hne).toNat := by
    conv => lhs; rw [hsplit]
    rw [num_append]
    simp [num]
   have hd := h1 _ (List.getLast_mem hne)
   have h4 : B ^ k ≤ B ^ (canon B n).dropLast.length := Nat.pow_le_pow_right (by omega) (by simp; omega)
   have h5 : B ^ (canon B n).dropLast.length * 1 ≤ B ^ (canon B n).dropLast.length * ((canon B n).getLast hne).toNat := Nat.mul_le_mul_left _ (by omega)
   omega
 · exact hk
end Go.Proofs.Ytbbnbgllgomolaa
namespace Go.Proofs.Ytbbnbgllgomolaa
open Go.RowKit
namespace Dy
theorem ret_int {k : IntKind} {a b : Int} (h : a = b) : Ending.returned (.int k a) = .returned (.int k b) := by rw [h]
theorem get {k : IntKind} {xs : List Int} {A : Option Addr} {n : Nat} {w : World} {lo hi : Nat} (h : Ints w lo hi k A n xs) (hn : 0 < n) :
  ∃ b off, A = some ⟨b, off, none⟩ ∧ ∀ j, j < n → w.cell? ⟨b, off + j, none⟩ = some (.int k (xs[j]?.getD 0)) := by
 obtain ⟨b, off, e, _, _, hc⟩ := h.row hn
 exact ⟨b, off, e, fun j hj => (hc j hj).1⟩
theorem cut_stop {B : Nat} {xs : List Int} {k : Nat} (hB : 2 ≤ B) (hd : Dig B xs) (hk : k ≤ xs.length) (hn : num B (xs.take k) = num B xs) (hs : k = 0 ∨ xs[k - 1]?.getD 0 ≠ 0) : xs.take k = canon B (num B xs) := by
 refine canon_of hB (fun x hx => hd x (List.mem_of_mem_take hx)) (fun hne => ?_) hn
 have hk0 : k ≠ 0 := fun e => hne (by rw [e]; rfl)
 have h1 := hs.resolve_left hk0
 rw [List.getLast_eq_getElem]
 simp only [List.length_take, List.getElem_take]
 have e : min k xs.length - 1 = k - 1 := by omega
 simp only [e]
 rwa [List.getElem?_eq_getElem (by omega)] at h1
theorem cut_on {B : Nat} {xs : List Int} {k : Nat} (hk : k + 1 ≤ xs.length) (hn : num B (xs.take (k + 1)) = num B xs) (hz : xs[k]?.getD 0 = 0) : num B (xs.take k) = num B xs := by
 rw [← hn, List.take_succ_eq_append_getElem (by omega), num_append]
 rw [List.getElem?_eq_getElem (by omega)] at hz
 simp only [Option.getD_some] at hz
 simp [num, hz]
end Dy
end Go.Proofs.Ytbbnbgllgomolaa
namespace Go.Proofs.Ytbbnbgllgomolaa
namespace Dp
/-- The whole number of a sign and a size. -/
def sg (s : Bool) (m : Nat) : Int := if s then -(m : Int) else m
/-- The sum of two, as sign and size. -/
def plusS (s : Bool) (m : Nat) (t : Bool) (n : Nat) : Bool × Nat :=
 if s = t then (s, m + n) else if n ≤ m then (s, m - n) else (t, n - m)
theorem plusS_sg (s : Bool) (m : Nat) (t : Bool) (n : Nat) : sg (plusS s m t n).1 (plusS s m t n).2 = sg s m + sg t n := by
 unfold plusS
 cases s <;> cases t <;> simp [sg] <;> (try omega) <;> split <;> simp <;> omega
theorem sg_mul (s : Bool) (m k : Nat) : sg s (m * k) = sg s m * (k : Int) := by
 unfold sg
 split <;> simp [Int.neg_mul]
theorem sg_zero (s : Bool) : sg s 0 = 0 := by simp [sg]
theorem sg_inj {s t : Bool} {m n : Nat} (h : sg s m = sg t n) (hm : m ≠ 0) : s = t ∧ m = n := by
 unfold sg at h
 cases s <;> cases t <;> simp at h ⊢ <;> omega
theorem sg_nil {s : Bool} {m : Nat} (h : sg s m = 0) : m = 0 := by
 unfold sg at h
 split at h <;> omega
/-- Factors of 2 taken away, k of them at most. -/
def strip : Nat → Nat → Nat × Nat
 | 0, m => (m, 0)
 | k + 1, m => if m % 2 = 0 then strip k (m / 2) else (m, k + 1)
theorem strip_spec : ∀ (k m : Nat), ∃ j, j ≤ k ∧ (strip k m).2 = k - j ∧ m = (strip k m).1 * 2 ^ j ∧ (j = k ∨ (strip k m).1 % 2 = 1)
 | 0, m => ⟨0, Nat.le_refl _, rfl, by simp [strip], .inl rfl⟩
 | k + 1, m => by
  by_cases h : m % 2 = 0
  · obtain ⟨j, h1, h2, h3, h4⟩ := strip_spec k (m / 2)
    have e : strip (k + 1) m = strip k (m / 2) := by simp [strip, h]
    rw [e]
    refine ⟨j + 1, by omega, by omega, ?_, by omega⟩
    rw [Nat.pow_succ, ← Nat.mul_assoc, ← h3]
    omega
  · have e : strip (k + 1) m = (m, k + 1) := by simp [strip, h]
    rw [e]
    exact ⟨0, by omega, by simp, by simp, .inr (by simp; omega)⟩
theorem strip_of : ∀ (k j m : Nat), j ≤ k → (j = k ∨ m % 2 = 1) → strip k (m * 2 ^ j) = (m, k - j)
 | 0, j, m, h, _ => by
  obtain rfl : j = 0 := by omega
  simp [strip]
 | k + 1, 0, m, _, h => by
  have h1 : m % 2 = 1 := by omega
  simp [strip, h1]
 | k + 1, j + 1, m, h, h2 => by
  have e : m * 2 ^ (j + 1) = m * 2 ^ j * 2 := by rw [Nat.pow_succ, Nat.mul_assoc]
  have ih := strip_of k j m (by omega) (by omega)
  rw [e]
  simp only [strip]
  rw [if_pos (by omega), Nat.mul_div_cancel _ (by omega), ih]
  congr 1
  omega
/-- A dyad's numbers: whether it is below 0, its limbs' number, its exponent. -/
structure Dn where
 neg : Bool
 m : Nat
 e : Nat
deriving DecidableEq
def Dn.zero : Dn := ⟨false, 0, 0⟩
/-- The numbers of 40 limbs. -/
def capE : Nat := 1280
def capD : Nat := 2 ^ capE
theorem capD_eq : capD = 2 ^ capE := rfl
theorem capD_gt {m k : Nat} (h : m < 2 ^ k) (hk : k ≤ 1280) : m < capD := Nat.lt_of_lt_of_le h (Nat.pow_le_pow_right (by decide) hk)
def Dn.May (a : Dn) : Prop := a.m < capD ∧ a.e ≤ 1024 ∧ (a.m = 0 → a.e = 0 ∧ a.neg = false) ∧ (0 < a.e → a.m % 2 = 1)
theorem zero_may : Dn.zero.May := ⟨capD_gt (k := 0) (by decide) (by decide), by decide, by decide, by decide⟩
theorem may_zero {a : Dn} (h : a.May) (h0 : a.m = 0) : a = Dn.zero := by
 obtain ⟨h1, h2⟩ := h.2.2.1 h0
 cases a
 simp_all [Dn.zero]
/-- So many parts of 2^-k as a dyad. -/
def formed (s : Bool) (m k : Nat) : Dn × Int :=
 if m = 0 then (Dn.zero, 0) else if (strip k m).1 < capD ∧ (strip k m).2 ≤ 1024 then (⟨s, (strip k m).1, (strip k m).2⟩, 0) else (Dn.zero, 10)
/-- A dyad in parts of 2^-k. -/
def vl (a : Dn) (k : Nat) : Int := sg a.neg (a.m * 2 ^ (k - a.e))
theorem vl_zero (k : Nat) : vl Dn.zero k = 0 := by simp [vl, Dn.zero, sg]
theorem vl_more (a : Dn) {k l : Nat} (h : a.e ≤ k) (hl : k ≤ l) : vl a l = vl a k * 2 ^ (l - k) := by
 unfold vl
 have e : l - a.e = (k - a.e) + (l - k) := by omega
 rw [e, Nat.pow_add, ← Nat.mul_assoc, sg_mul]
 simp
theorem formed_cases (s : Bool) (m k : Nat) : (formed s m k).2 = 0 ∨ formed s m k = (Dn.zero, 10) := by
 unfold formed
 split
 · exact .inl rfl
 · split
   · exact .inl rfl
   · exact .inr rfl
theorem formed_may (s : Bool) (m k : Nat) : (formed s m k).1.May := by
 unfold formed
 split
 · exact zero_may
 · split
   · rename_i h0 h1
     obtain ⟨j, h2, h3, h4, h5⟩ := strip_spec k m
     refine ⟨h1.1, h1.2, fun h => ?_, fun h => ?_⟩
     · simp only at h
       rw [h] at h4
       omega
     · simp only at h ⊢
       omega
   · exact zero_may
theorem formed_vl {s : Bool} {m k : Nat} (h : (formed s m k).2 = 0) : (formed s m k).1.e ≤ k ∧ ∀ K, k ≤ K → vl (formed s m k).1 K = sg s (m * 2 ^ (K - k)) := by
 unfold formed at h ⊢
 split
 · rename_i h0
   subst h0
   exact ⟨Nat.zero_le _, fun K _ => by simp [vl_zero, sg]⟩
 · rename_i h0
   rw [if_neg h0] at h
   split
   · obtain ⟨j, h2, h3, h4, h5⟩ := strip_spec k m
     refine ⟨by simp only; omega, fun K hK => ?_⟩
     unfold vl
     simp only
     refine congrArg (sg s) ?_
     conv => rhs; rw [h4]
     rw [Nat.mul_assoc, ← Nat.pow_add]
     exact congrArg (fun t => (strip k m).1 * 2 ^ t) (by clear h; omega)
   · rename_i h1
     rw [if_neg h1] at h
     simp at h
theorem formed_of {s : Bool} {m k K : Nat} {r : Dn} (hr : r.May) (he : r.e ≤ K) (hk : k ≤ K) (h : vl r K = sg s (m * 2 ^ (K - k))) : formed s m k = (r, 0) := by
 unfold vl at h
 have p1 := Nat.pow_pos (n := K - k) (show 0 < 2 by omega)
 have p2 := Nat.pow_pos (n := K - r.e) (show 0 < 2 by omega)
 by_cases h0 : m = 0
 · subst h0
   rw [Nat.zero_mul, sg_zero] at h
   have h1 : r.m = 0 := by
    rcases Nat.mul_eq_zero.1 (sg_nil h) with h1 | h1
    · exact h1
    · omega
   rw [may_zero hr h1]
   simp [formed]
 · have h1 : r.m ≠ 0 := fun e => by
     rw [e, Nat.zero_mul, sg_zero] at h
     rcases Nat.mul_eq_zero.1 (sg_nil h.symm) with h1 | h1 <;> omega
   have h2 : r.m * 2 ^ (K - r.e) ≠ 0 := Nat.mul_ne_zero h1 (by omega)
   obtain ⟨rfl, h3⟩ := sg_inj h h2
   have h4 : r.e ≤ k := by
    rcases Nat.lt_or_ge k r.e with hlt | hge
    · exfalso
      have e : K - k = (r.e - k - 1) + 1 + (K - r.e) := by omega
      rw [e, Nat.pow_add, ← Nat.mul_assoc] at h3
      have h5 := Nat.eq_of_mul_eq_mul_right p2 h3
      have h6 := hr.2.2.2 (by omega)
      rw [h5, Nat.pow_succ, ← Nat.mul_assoc] at h6
      omega
    · exact hge
   have e : K - r.e = (k - r.e) + (K - k) := by omega
   rw [e, Nat.pow_add, ← Nat.mul_assoc] at h3
   have h5 := Nat.eq_of_mul_eq_mul_right p1 h3
   have h6 := strip_of k (k - r.e) r.m (by omega) (by
    rcases Nat.eq_zero_or_pos r.e with h7 | h7
    · left; omega
    · right; exact hr.2.2.2 h7)
   unfold formed
   rw [if_neg h0, ← h5, h6]
   have e2 : k - (k - r.e) = r.e := by omega
   simp only [e2]
   rw [if_pos ⟨hr.1, hr.2.1⟩]
/-- The sum. -/
def addD (a b : Dn) : Dn × Int :=
 formed (plusS a.neg (a.m * 2 ^ (max a.e b.e - a.e)) b.neg (b.m * 2 ^ (max a.e b.e - b.e))).1 (plusS a.neg (a.m * 2 ^ (max a.e b.e - a.e)) b.neg (b.m * 2 ^ (max a.e b.e - b.e))).2 (max a.e b.e)
theorem sum_vl (a b : Dn) {K : Nat} (h1 : a.e ≤ K) (h2 : b.e ≤ K) :
  sg (plusS a.neg (a.m * 2 ^ (max a.e b.e - a.e)) b.neg (b.m * 2 ^ (max a.e b.e - b.e))).1 ((plusS a.neg (a.m * 2 ^ (max a.e b.e - a.e)) b.neg (b.m * 2 ^ (max a.e b.e - b.e))).2 * 2 ^ (K - max a.e b.e)) = vl a K + vl b K := by
 rw [sg_mul, plusS_sg, vl_more a (k := max a.e b.e) (l := K) (by omega) (by omega), vl_more b (k := max a.e b.e) (l := K) (by omega) (by omega)]
 unfold vl
 rw [Int.add_mul]
 simp
theorem add_vl {a b : Dn} (h : (addD a b).2 = 0) : (addD a b).1.e ≤ max a.e b.e ∧ ∀ K, a.e ≤ K → b.e ≤ K → vl (addD a b).1 K = vl a K + vl b K := by
 obtain ⟨h1, h2⟩ := formed_vl h
 exact ⟨h1, fun K k1 k2 => (h2 K (by omega)).trans (sum_vl a b k1 k2)⟩
theorem add_of {a b r : Dn} (hr : r.May) {K : Nat} (h1 : a.e ≤ K) (h2 : b.e ≤ K) (h3 : r.e ≤ K) (h : vl r K = vl a K + vl b K) : addD a b = (r, 0) :=
 formed_of hr h3 (by omega) (h.trans (sum_vl a b h1 h2).symm)
theorem add_may (a b : Dn) : (addD a b).1.May := formed_may ..
theorem add_cases (a b : Dn) : (addD a b).2 = 0 ∨ addD a b = (Dn.zero, 10) := formed_cases ..
/-! What the laws ask -/
theorem add_comm (a b : Dn) : addD a b = addD b a := by
 rcases add_cases a b with h | h
 · obtain ⟨h1, h2⟩ := add_vl h
   have h3 := h2 (max a.e b.e) (by omega) (by omega)
   rw [Int.add_comm] at h3
   have := add_of (add_may a b) (a := b) (b := a) (K := max a.e b.e) (by omega) (by omega) h1 h3
   rw [this, ← h]
 · rcases add_cases b a with k | k
   · obtain ⟨h1, h2⟩ := add_vl k
     have h3 := h2 (max a.e b.e) (by omega) (by omega)
     rw [Int.add_comm] at h3
     have := add_of (add_may b a) (a := a) (b := b) (K := max a.e b.e) (by omega) (by omega) (by omega) h3
     rw [this, ← k]
   · rw [h, k]
theorem add_assoc {a b c x q p : Dn} (h1 : addD a b = (x, 0)) (h2 : addD x c = (p, 0)) (h3 : addD b c = (q, 0)) : addD a q = (p, 0) := by
 have e1 := add_vl (a := a) (b := b) (by rw [h1])
 have e2 := add_vl (a := x) (b := c) (by rw [h2])
 have e3 := add_vl (a := b) (b := c) (by rw [h3])
 rw [h1] at e1
 rw [h2] at e2
 rw [h3] at e3
 have hp : p.May := by have := add_may x c; rwa [h2] at this
 obtain ⟨a1, a2⟩ := e1
 obtain ⟨b1, b2⟩ := e2
 obtain ⟨c1, c2⟩ := e3
 simp only at *
 refine add_of hp (K := max (max a.e b.e) c.e) (by omega) (by omega) (by omega) ?_
 rw [b2 _ (by omega) (by omega), a2 _ (by omega) (by omega), c2 _ (by omega) (by omega)]
 omega
end Dp
end Go.Proofs.Ytbbnbgllgomolaa
namespace Go.Proofs.Ytbbnbgllgomolaa
namespace Dp
theorem take_next (B : Nat) (l : List Int) (k : Nat) : num B (l.take (k + 1)) = num B (l.take k) + B ^ k * (l[k]?.getD 0).toNat := by
 by_cases h : k < l.length
 · rw [List.take_succ_eq_append_getElem h, num_append, List.getElem?_eq_getElem h]
   simp [num, Nat.min_eq_left (Nat.le_of_lt h)]
 · rw [List.take_of_length_le (by omega), List.take_of_length_le (by omega), List.getElem?_eq_none (by omega)]
   simp
theorem dig_set {B : Nat} {l : List Int} (h : Dig B l) (k d : Nat) (hd : d < B) : Dig B (l.set k (d : Int)) := fun x hx => by
 rcases List.mem_or_eq_of_mem_set hx with h' | h'
 · exact h x h'
 · subst h'; omega
theorem set_far (l : List Int) {k j : Nat} (v : Int) (h : k ≠ j) : (l.set k v)[j]?.getD 0 = l[j]?.getD 0 := by
 rw [List.getElem?_set_ne h]
/-! ### Limbs of 32 bits -/
theorem pow32 (k : Nat) : 4294967296 ^ k = 2 ^ (32 * k) := by rw [Nat.pow_mul]
/-! ### Raw dyads -/
def MayL (xs : List Int) : Prop := xs.length ≤ 40 ∧ Cutd xs
def MayD (s : Bool) (xs : List Int) (e : Int) : Prop := MayL xs ∧ 0 ≤ e ∧ e ≤ 1024 ∧ (xs = [] → e = 0 ∧ s = false) ∧ (xs ≠ [] → 0 < e → xs[0]?.getD 0 % 2 = 1)
theorem num_odd (l : List Int) (hd : Dig 4294967296 l) : ((num 4294967296 l % 2 : Nat) : Int) = l[0]?.getD 0 % 2 := by
 cases l with
 | nil => rfl
 | cons x l =>
  have := hd x (by simp)
  simp only [num, List.getElem?_cons_zero, Option.getD_some]
  omega
theorem capD_of {k : Nat} (h : 32 * k = capE) : 4294967296 ^ k = capD := by rw [pow32, capD_eq, h]
theorem capD_40 : capD = 4294967296 ^ 40 := (capD_of rfl).symm
theorem may_dn {s : Bool} {xs : List Int} {e : Int} (hd : Dig 4294967296 xs) (h : MayD s xs e) : Dn.May ⟨s, num 4294967296 xs, e.toNat⟩ ∧ canon 4294967296 (num 4294967296 xs) = xs := by
 obtain ⟨⟨h1, h2⟩, h3, h4, h5, h6⟩ := h
 have hc := canon_of (by decide) hd h2 rfl
 have hz : num 4294967296 xs = 0 → xs = [] := fun h0 => by rw [h0, canon_zero] at hc; exact hc
 have hne : xs = [] → num 4294967296 xs = 0 := fun h0 => by rw [h0]; rfl
 refine ⟨⟨?_, ?_, fun h0 => ?_, fun h0 => ?_⟩, hc.symm⟩
 · show num 4294967296 xs < capD
   have := num_lt 4294967296 (by decide) xs hd
   rw [capD_40]
   exact Nat.lt_of_lt_of_le this (Nat.pow_le_pow_right (by decide) h1)
 · show e.toNat ≤ 1024
   omega
 · have h7 := h5 (hz h0)
   exact ⟨by show e.toNat = 0; omega, h7.2⟩
 · have h0' : 0 < e := by have : 0 < e.toNat := h0; omega
   have h7 : xs ≠ [] := fun h8 => by have := (h5 h8).1; omega
   have h8 := h6 h7 h0'
   have h9 := num_odd xs hd
   show num 4294967296 xs % 2 = 1
   omega
theorem dn_may {d : Dn} (h : d.May) : MayD d.neg (canon 4294967296 d.m) d.e := by
 obtain ⟨h1, h2, h3, h4⟩ := h
 obtain ⟨c1, c2, c3⟩ := canon_spec 4294967296 d.m (by decide)
 have hl := canon_len (B := 4294967296) (n := d.m) (k := 40) (by decide) (by rw [← capD_40]; exact h1)
 refine ⟨⟨hl, c2⟩, by omega, by omega, fun h0 => ?_, fun _ h0 => ?_⟩
 · have := h3 (canon_nil (by decide) h0)
   exact ⟨by omega, this.2⟩
 · have h5 := num_odd _ c1
   rw [c3] at h5
   have := h4 (by omega)
   omega
end Dp
end Go.Proofs.Ytbbnbgllgomolaa
namespace Go.Proofs.Ytbbnbgllgomolaa
open Go.RowKit
namespace Dy
open Dp
theorem cutd_last {l : List Int} {n : Nat} (hl : l.length = n) (hn : 0 < n) : Cutd l ↔ l[n - 1]?.getD 0 ≠ 0 := by
 have hne : l ≠ [] := fun e => by rw [e] at hl; simp at hl; omega
 have e : l[n - 1]?.getD 0 = l.getLast hne := by
  rw [List.getLast_eq_getElem, List.getElem?_eq_getElem (by omega)]
  simp only [Option.getD_some]
  congr 1
  omega
 rw [e]
 exact ⟨fun h => h hne, fun h _ => h⟩
set_option maxRecDepth 100000 in
/-- limb.Check: limbs that may be. -/
theorem limbCheck_ok (w : World) (lo hi : Nat) (A : Option Addr) (n c : Nat) (xs : List Int) (hX : Ints w lo hi .u32 A n xs) (h : MayL xs) :
  Calls Try.prog 128 #[.slice A n c] w fun e w' => e = .returned (.int .i64 0) ∧ w' = w := by
 have hL := Lib.hid hX.len
 have h40 : n ≤ 40 := by have := h.1; have := hL.out; omega
 by_cases h0 : 0 < n
 · have hlast := (cutd_last hX.len h0).1 h.2
   obtain ⟨b, off, rfl, hcell⟩ := get hX h0
   have g1 : w.cell? ⟨b, off + (n - 1), none⟩ = some (.int .u32 (xs[n - 1]?.getD 0)) := hcell (n - 1) (by omega)
   have hb : (xs[n - 1]?.getD 0 == 0) = false := by simpa using hlast
   have e1 : ((n : Int) - 1).toNat = n - 1 := by omega
   clear hcell hlast h
   generalize xs[n - 1]?.getD 0 = v at g1 hb
   go_enter Try.func128, Try.ntmps128
   go_wp2
   go_ret
   exact ⟨rfl, rfl⟩
 · obtain rfl : n = 0 := by omega
   clear h
   go_enter Try.func128, Try.ntmps128
   go_wp2
   go_ret
   exact ⟨rfl, rfl⟩
set_option maxRecDepth 100000 in
/-- limb.Check: limbs that may not be. -/
theorem limbCheck_bad (w : World) (lo hi : Nat) (A : Option Addr) (n c : Nat) (xs : List Int) (hX : Ints w lo hi .u32 A n xs) (h : ¬ MayL xs) :
  Calls Try.prog 128 #[.slice A n c] w fun e w' => e = .returned (.int .i64 8) ∧ w' = w := by
 have hL := Lib.hid hX.len
 have hbig := hX.big
 by_cases h40 : n ≤ 40
 · have h0 : 0 < n := by
     rcases Nat.eq_zero_or_pos n with h0 | h0
     · exact absurd ⟨by have := hL.out; omega, fun hne => absurd (hX.zero h0) hne⟩ h
     · exact h0
   have hlast : xs[n - 1]?.getD 0 = 0 := by
    by_cases hl : xs[n - 1]?.getD 0 = 0
    · exact hl
    · exact absurd ⟨by have := hL.out; omega, (cutd_last hX.len h0).2 hl⟩ h
   obtain ⟨b, off, rfl, hcell⟩ := get hX h0
   have g1 : w.cell? ⟨b, off + (n - 1), none⟩ = some (.int .u32 (xs[n - 1]?.getD 0)) := hcell (n - 1) (by omega)
   rw [hlast] at g1
   have e1 : ((n : Int) - 1).toNat = n - 1 := by omega
   clear hcell hlast h
   go_enter Try.func128, Try.ntmps128
   go_wp2
   go_ret
   exact ⟨rfl, rfl⟩
 · clear h
   go_enter Try.func128, Try.ntmps128
   go_wp2
   go_ret
   exact ⟨rfl, rfl⟩
set_option maxHeartbeats 800000 in
set_option maxRecDepth 100000 in
/-- dyad.Check: dyads that may be. -/
theorem Check_ok (w : World) (lo hi : Nat) (s : Bool) (A : Option Addr) (n c : Nat) (xs : List Int) (ex : Int) (hX : Ints w lo hi .u32 A n xs) (hhi : hi ≤ w.heap.size) (h : MayD s xs ex) :
  Calls Try.prog 106 #[.agg #[.bool s, .slice A n c, .int .i64 ex]] w fun e w' => e = .returned (.int .i64 0) ∧ Below w.heap.size w w' := by
 have hL := Lib.hid hX.len
 have hX2 := hX.alloc hhi (.cells #[.bool s, .slice A n c, .int .i64 ex] 25)
 have hB := (Below.refl w.heap.size w).alloc (Nat.le_refl _) (.cells #[.bool s, .slice A n c, .int .i64 ex] 25)
 obtain ⟨hmay, he0, he1, hz, ho⟩ := h
 by_cases h0 : 0 < n
 · have hne : xs ≠ [] := fun e => by have := hL.out; rw [e] at this; simp at this; omega
   obtain ⟨b, off, rfl, hcell⟩ := get hX2 h0
   have g1 := hcell 0 h0
   rw [Nat.add_zero] at g1
   have ho' := ho hne
   have hn0 : ((n : Int) == 0) = false := by simp; omega
   obtain ⟨v0, v1⟩ := hX.u32 0
   clear hcell hz ho
   generalize xs[0]?.getD 0 = v at g1 ho' v0 v1
   by_cases hpos : 0 < ex
   · have hv := ho' hpos
     have hv2 : v % 2 = 1 := hv
     clear ho' hv hne
     go_enter Try.func106, Try.ntmps106
     go_wp2_with fail
     refine (limbCheck_ok _ _ _ _ _ _ _ hX2 hmay).mono ?_
     rintro e w1 ⟨rfl, rfl⟩
     clear hmay
     go_wp2
     go_ret
     exact ⟨rfl, hB⟩
   · obtain rfl : ex = 0 := by omega
     clear ho' hne he0 he1
     go_enter Try.func106, Try.ntmps106
     go_wp2_with fail
     refine (limbCheck_ok _ _ _ _ _ _ _ hX2 hmay).mono ?_
     rintro e w1 ⟨rfl, rfl⟩
     clear hmay
     go_wp2
     go_ret
     exact ⟨rfl, hB⟩
 · obtain rfl : n = 0 := by omega
   obtain ⟨rfl, rfl⟩ := hz (hX.zero rfl)
   clear ho he0 he1
   go_enter Try.func106, Try.ntmps106
   go_wp2_with fail
   refine (limbCheck_ok _ _ _ _ _ _ _ hX2 hmay).mono ?_
   rintro e w1 ⟨rfl, rfl⟩
   clear hmay
   go_wp2
   go_ret
   exact ⟨rfl, hB⟩
theorem not_may {s : Bool} {xs : List Int} {e : Int} (h : ¬ MayD s xs e) : ¬ MayL xs ∨ (MayL xs ∧ (e < 0 ∨ 1024 < e)) ∨ (MayL xs ∧ 0 ≤ e ∧ e ≤ 1024 ∧ xs = [] ∧ (e ≠ 0 ∨ s = true)) ∨ (MayL xs ∧ 0 < e ∧ e ≤ 1024 ∧ xs ≠ [] ∧ xs[0]?.getD 0 % 2 ≠ 1) := by
 by_cases h1 : MayL xs
 · by_cases h2 : e < 0 ∨ 1024 < e
   · exact .inr (.inl ⟨h1, h2⟩)
   · by_cases h3 : xs = []
     · refine .inr (.inr (.inl ⟨h1, by omega, by omega, h3, ?_⟩))
       by_cases h4 : e = 0
       · right
         cases s
         · exact absurd ⟨h1, by omega, by omega, fun _ => ⟨h4, rfl⟩, fun hne => absurd h3 hne⟩ h
         · rfl
       · exact .inl h4
     · by_cases h4 : 0 < e ∧ xs[0]?.getD 0 % 2 ≠ 1
       · exact .inr (.inr (.inr ⟨h1, h4.1, by omega, h3, h4.2⟩))
       · exact absurd ⟨h1, by omega, by omega, fun h5 => absurd h5 h3, fun _ h5 => by omega⟩ h
 · exact .inl h1
set_option maxHeartbeats 1600000 in
set_option maxRecDepth 100000 in
/-- dyad.Check: dyads that may not be. -/
theorem Check_bad (w : World) (lo hi : Nat) (s : Bool) (A : Option Addr) (n c : Nat) (xs : List Int) (ex : Int) (hX : Ints w lo hi .u32 A n xs) (hhi : hi ≤ w.heap.size) (h : ¬ MayD s xs ex) :
  Calls Try.prog 106 #[.agg #[.bool s, .slice A n c, .int .i64 ex]] w fun e w' => e = .returned (.int .i64 8) ∧ Below w.heap.size w w' := by
 have hL := Lib.hid hX.len
 have hX2 := hX.alloc hhi (.cells #[.bool s, .slice A n c, .int .i64 ex] 25)
 have hB := (Below.refl w.heap.size w).alloc (Nat.le_refl _) (.cells #[.bool s, .slice A n c, .int .i64 ex] 25)
 have hbig := hX.big
 rcases not_may h with hm | ⟨hm, hx⟩ | ⟨hm, h0, h1, hz, hx⟩ | ⟨hm, h0, h1, hz, hx⟩
 · clear h
   go_enter Try.func106, Try.ntmps106
   go_wp2_with fail
   refine (limbCheck_bad _ _ _ _ _ _ _ hX2 hm).mono ?_
   rintro e w1 ⟨rfl, rfl⟩
   clear hm
   by_cases hn0 : n = 0
   · subst hn0
     go_wp2
     go_ret
     exact ⟨rfl, hB⟩
   · have hn1 : ((n : Int) == 0) = false := by simp; omega
     go_wp2
     go_ret
     exact ⟨rfl, hB⟩
 · clear h
   have hn1 : n ≠ 0 → ((n : Int) == 0) = false := fun h => by simp; omega
   rcases hx with hx | hx
   all_goals
    by_cases hn0 : n = 0
    · subst hn0
      clear hn1
      go_enter Try.func106, Try.ntmps106
      go_wp2_with fail
      refine (limbCheck_ok _ _ _ _ _ _ _ hX2 hm).mono ?_
      rintro e w1 ⟨rfl, rfl⟩
      clear hm
      go_wp2
      go_ret
      exact ⟨rfl, hB⟩
    · have hn2 := hn1 hn0
      clear hn1
      go_enter Try.func106, Try.ntmps106
      go_wp2_with fail
      refine (limbCheck_ok _ _ _ _ _ _ _ hX2 hm).mono ?_
      rintro e w1 ⟨rfl, rfl⟩
      clear hm
      go_wp2
      go_ret
      exact ⟨rfl, hB⟩
 · clear h
   subst hz
   obtain rfl : n = 0 := by have := hL.out; simp at this; omega
   by_cases hx0 : ex = 0
   · subst hx0
     obtain rfl : s = true := hx.resolve_left (fun h => h rfl)
     clear hx
     go_enter Try.func106, Try.ntmps106
     go_wp2_with fail
     refine (limbCheck_ok _ _ _ _ _ _ _ hX2 hm).mono ?_
     rintro e w1 ⟨rfl, rfl⟩
     clear hm
     go_wp2
     go_ret
     exact ⟨rfl, hB⟩
   · have hx1 : (ex != 0) = true := by simpa using hx0
     clear hx
     go_enter Try.func106, Try.ntmps106
     go_wp2_with fail
     refine (limbCheck_ok _ _ _ _ _ _ _ hX2 hm).mono ?_
     rintro e w1 ⟨rfl, rfl⟩
     clear hm
     go_wp2
     go_ret
     exact ⟨rfl, hB⟩
 · clear h
   have hn0 : 0 < n := by
    rcases Nat.eq_zero_or_pos n with h0 | h0
    · exact absurd (hX.zero h0) hz
    · exact h0
   obtain ⟨b, off, rfl, hcell⟩ := get hX2 hn0
   have g1 := hcell 0 hn0
   rw [Nat.add_zero] at g1
   have hn1 : ((n : Int) == 0) = false := by simp; omega
   obtain ⟨v0, v1⟩ := hX.u32 0
   clear hcell hz
   generalize xs[0]?.getD 0 = v at g1 hx v0 v1
   have hv : v % 2 = 0 := by omega
   clear hx
   go_enter Try.func106, Try.ntmps106
   go_wp2_with fail
   refine (limbCheck_ok _ _ _ _ _ _ _ hX2 hm).mono ?_
   rintro e w1 ⟨rfl, rfl⟩
   clear hm
   go_wp2
   go_ret
   exact ⟨rfl, hB⟩
end Dy
end Go.Proofs.Ytbbnbgllgomolaa
namespace Go.Proofs.Ytbbnbgllgomolaa
open Go.RowKit
namespace Dy
open Dp
/-- The cells of a row of limbs. -/
def rowU (ws : List Int) : Array Value := (ws.map (Value.int .u32)).toArray
theorem rowU_get (ws : List Int) {j : Nat} (h : j < ws.length) : (rowU ws)[j]? = some (.int .u32 (ws[j]?.getD 0)) := by
 simp [rowU, List.getElem?_eq_getElem h]
theorem rowU_set (ws : List Int) (j : Nat) (v : Int) : (rowU ws).setIfInBounds j (.int .u32 v) = rowU (ws.set j v) := by
 simp [rowU, List.map_set]
/-- A row of 74 limbs in a block of its own. -/
structure Wide (w : World) (g : Nat) (ws : List Int) : Prop where
 blk : w.heap[g]? = some (.cells (rowU ws) 159 (0, 0))
 len : ws.length = 74
 dig : Dig 4294967296 ws
theorem Wide.cell {w : World} {g : Nat} {ws : List Int} (h : Wide w g ws) {j : Nat} (hj : j < 74) : w.cell? ⟨g, j, none⟩ = some (.int .u32 (ws[j]?.getD 0)) := by
 rw [cell_of_row w g j _ _ _ h.blk]
 exact rowU_get ws (by rw [h.len]; exact hj)
theorem Wide.free {w : World} {g : Nat} {ws : List Int} (h : Wide w g ws) (j : Nat) : w.frozen? ⟨g, j, none⟩ = false := frozen_of_row w g j _ _ h.blk
theorem Wide.set {w : World} {g : Nat} {ws : List Int} (h : Wide w g ws) (j d : Nat) (hd : d < 4294967296) : Wide (w.setCell ⟨g, j, none⟩ (.int .u32 d)) g (ws.set j d) :=
 ⟨by rw [heap_setCell_same w g j _ _ _ h.blk, rowU_set], by rw [List.length_set, h.len], dig_set h.dig j d hd⟩
def zero74 : List Int := List.replicate 74 0
theorem Try.info159 : (Try.prog.info? 159).map (fun i => (i.zero, i.size)) = some (some (.agg (rowU zero74)), 74) := by kernel_rfl
end Dy
end Go.Proofs.Ytbbnbgllgomolaa
namespace Go.Proofs.Ytbbnbgllgomolaa
open Go.RowKit
namespace Dy
open Dp
theorem drewN_add (w : World) (a b : Nat) : (w.drewN a).drewN b = w.drewN (a + b) := by simp [World.drewN, Nat.add_assoc]
/-- 74 limbs that lie from offset o of block g on. -/
structure Row (w : World) (g o : Nat) (ws : List Int) : Prop where
 cell : ∀ j, j < 74 → w.cell? ⟨g, o + j, none⟩ = some (.int .u32 (ws[j]?.getD 0))
 free : ∀ j, j < 74 → w.frozen? ⟨g, o + j, none⟩ = false
 len : ws.length = 74
 dig : Dig 4294967296 ws
theorem Row.drewN {w : World} {g o : Nat} {ws : List Int} (h : Row w g o ws) (m : Nat) : Row (w.drewN m) g o ws := ⟨h.cell, h.free, h.len, h.dig⟩
theorem Row.keep {w w' : World} {g o : Nat} {ws : List Int} (h : Row w g o ws) (hk : ∀ j, j < 74 → w'.cell? ⟨g, o + j, none⟩ = w.cell? ⟨g, o + j, none⟩ ∧ w'.frozen? ⟨g, o + j, none⟩ = w.frozen? ⟨g, o + j, none⟩) : Row w' g o ws :=
 ⟨fun j hj => (hk j hj).1.trans (h.cell j hj), fun j hj => (hk j hj).2.trans (h.free j hj), h.len, h.dig⟩
theorem Wide.row {w : World} {g : Nat} {ws : List Int} (h : Wide w g ws) : Row w g 0 ws :=
 ⟨fun j hj => by rw [Nat.zero_add]; exact h.cell hj, fun j _ => by rw [Nat.zero_add]; exact h.free j, h.len, h.dig⟩
end Dy
end Go.Proofs.Ytbbnbgllgomolaa