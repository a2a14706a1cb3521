/- Predicates for slices of whole numbers that lie in memory, and how they are kept: no program in sight. -/
/- Numbers as lists of digits, the lowest first: no program in sight. -/
/- What the reference's functions of bits do, by walks. -/
/- Sums of bits, by a walk. -/
/- How bits stand to each other, by a walk. -/
/- The numbers of dyads, and what is reckoned with them: no program in sight. -/
/- Limbs: digits, shifts, sums in place, the lowest and the highest bit: no program in sight. -/
/- Quotients, bit by bit: no program in sight. -/
import Derived.WalkKit
import Derived.WalkSpells
import Derived.BigQuiet
import Derived.Deep.QuietTactic
import Derived.Deep.AppendLies
import Derived.Deep.Draws
import Derived.Laws.OwnMore
import Derived.Lib.Hide
import Derived.Maps.AppendAt
import Derived.OwnWalk
import Derived.Test.YtmbppgjhdcmckaaGreatDoorProg
namespace Go.Proofs.YtmbppgjhdcmckaaGreatDoor
open Go.RowKit
/-- The value '.slice A n c' holds the numbers xs of kind k, in a block from lo on and below hi. -/
structure Ints (w : World) (lo hi : Nat) (k : IntKind) (A : Option Addr) (n : Nat) (xs : List Int) : Prop where
 len : xs.length = n
 wf : ∀ x ∈ xs, k.min ≤ x ∧ x ≤ k.max
 big : n ≤ 9223372036854775807
 row : 0 < n → ∃ b off, A = some ⟨b, off, none⟩ ∧ lo ≤ b ∧ b < hi ∧ ∀ j, j < n → w.cell? ⟨b, off + j, none⟩ = some (.int k (xs[j]?.getD 0)) ∧ w.frozen? ⟨b, off + j, none⟩ = false
section
variable {w w' : World} {lo hi lo' hi' : Nat} {k : IntKind} {A : Option Addr} {n : Nat} {xs : List Int}
theorem Ints.nil_ (w : World) (lo hi : Nat) (k : IntKind) (A : Option Addr) : Ints w lo hi k A 0 [] :=
 ⟨rfl, by simp, by omega, fun h => absurd h (by omega)⟩
theorem Ints.zero (h : Ints w lo hi k A n xs) (h0 : n = 0) : xs = [] := List.eq_nil_of_length_eq_zero (by rw [h.len, h0])
theorem Ints.keep (h : Ints w lo hi k A n xs) (hk : ∀ p : Addr, p.block < hi → w'.cell? p = w.cell? p ∧ w'.frozen? p = w.frozen? p) : Ints w' lo hi k A n xs :=
 ⟨h.len, h.wf, h.big, fun hn => by
  obtain ⟨b, off, e, h1, h2, hc⟩ := h.row hn
  exact ⟨b, off, e, h1, h2, fun j hj => ⟨(hk _ h2).1.trans (hc j hj).1, (hk _ h2).2.trans (hc j hj).2⟩⟩⟩
theorem Ints.more (h : Ints w lo hi k A n xs) (hl : lo' ≤ lo) (hh : hi ≤ hi') : Ints w lo' hi' k A n xs :=
 ⟨h.len, h.wf, h.big, fun hn => by
  obtain ⟨b, off, e, h1, h2, hc⟩ := h.row hn
  exact ⟨b, off, e, by omega, by omega, hc⟩⟩
theorem Ints.below {B : Nat} (h : Ints w lo hi k A n xs) (hb : Below B w w') (hB : hi ≤ B) : Ints w' lo hi k A n xs :=
 h.keep fun p hp => ⟨hb.cell (by omega), hb.frozen (by omega)⟩
theorem Ints.drewN (h : Ints w lo hi k A n xs) (m : Nat) : Ints (w.drewN m) lo hi k A n xs := ⟨h.len, h.wf, h.big, h.row⟩
theorem Ints.alloc (h : Ints w lo hi k A n xs) (hB : hi ≤ w.heap.size) (o : Obj) : Ints (w.alloc o) lo hi k A n xs :=
 h.below ((Below.refl w.heap.size w).alloc (Nat.le_refl _) o) hB
theorem Ints.u32 (h : Ints w lo hi .u32 A n xs) (j : Nat) : 0 ≤ xs[j]?.getD 0 ∧ xs[j]?.getD 0 ≤ 4294967295 := by
 by_cases hj : j < xs.length
 · have hm : xs[j]?.getD 0 ∈ xs := by simp [hj]
   have := h.wf _ hm
   exact ⟨by simpa [IntKind.min, IntKind.signed] using this.1, by simpa [IntKind.max, IntKind.signed, IntKind.bits] using this.2⟩
 · simp [hj]
theorem Ints.take_ (h : Ints w lo hi k A n xs) {m : Nat} (hm : m ≤ n) : Ints w lo hi k A m (xs.take m) := by
 have hl := h.len
 refine ⟨by simp; omega, fun x hx => h.wf x (List.mem_of_mem_take hx), by have := h.big; omega, fun h0 => ?_⟩
 obtain ⟨b, off, e, h1, h2, hc⟩ := h.row (by omega)
 refine ⟨b, off, e, h1, h2, fun j hj => ?_⟩
 rw [List.getElem?_take, if_pos hj]
 exact hc j (by omega)
/-- Out of what the call owns. -/
theorem Ints.of_own {base : Nat} {e : TypeId} {c : Nat} (h : w.ownsRow base e 1 (.slice A n c) n (xs.map (Value.int k))) (hw : ∀ x ∈ xs, k.min ≤ x ∧ x ≤ k.max) (hn : n ≤ 9223372036854775807) : Ints w base w.heap.size k A n xs := by
 have hl : xs.length = n := by simpa using h.1
 refine ⟨hl, hw, hn, fun h0 => ?_⟩
 obtain ⟨_, h2⟩ := h
 rcases h2 with ⟨_, h3⟩ | ⟨g, cap, cur, hv, hg, hh, hnc, hcm, hcs, ht⟩
 · omega
 · injection hv with ha
   refine ⟨g, 0, ha, hg, (Array.getElem?_eq_some_iff.1 hh).1, fun j hj => ⟨?_, by simp [World.frozen?, hh]⟩⟩
   rw [cell_of_row w g _ cur e (0, 0) hh, Nat.zero_add]
   have hx : (xs.map (Value.int k))[j]? = some (.int k (xs[j]?.getD 0)) := by
    simp only [List.getElem?_map]
    rw [List.getElem?_eq_getElem (by omega)]
    rfl
   rw [← ht, List.getElem?_take, if_pos (by omega)] at hx
   simpa using hx
theorem below_drewN {B : Nat} {a : World} (h : Below B a w) (m : Nat) : Below B a (w.drewN m) := ⟨h.os, h.tape, h.output, h.size, h.block⟩
theorem below_of_drewN (B : Nat) (w : World) (m : Nat) : Below B w (w.drewN m) := below_drewN (Below.refl B w) m
end
/-- The value '.slice A n c' (m cells in all) holds the cells cs. -/
structure Raw (w : World) (lo hi : Nat) (A : Option Addr) (m : Nat) (cs : List Value) : Prop where
 len : cs.length = m
 row : 0 < m → ∃ b off, A = some ⟨b, off, none⟩ ∧ lo ≤ b ∧ b < hi ∧ ∀ j, j < m → w.cell? ⟨b, off + j, none⟩ = cs[j]? ∧ w.frozen? ⟨b, off + j, none⟩ = false
theorem Ints.raw {w : World} {lo hi : Nat} {k : IntKind} {A : Option Addr} {n : Nat} {xs : List Int} (h : Ints w lo hi k A n xs) : Raw w lo hi A (n * 1) (xs.map (Value.int k)) := by
 refine ⟨by simp [h.len], fun hn => ?_⟩
 obtain ⟨b, off, e, h1, h2, hc⟩ := h.row (by omega)
 refine ⟨b, off, e, h1, h2, fun j hj => ⟨?_, (hc j (by omega)).2⟩⟩
 rw [(hc j (by omega)).1, List.getElem?_map, List.getElem?_eq_getElem (by have := h.len; omega)]
 rfl
theorem Raw.at_ {w : World} {lo hi : Nat} {ad : Addr} {m : Nat} {cs : List Value} (h : Raw w lo hi (some ad) m cs) : ∀ j u, cs[j]? = some u → w.cell? (ad.add j) = some u := by
 intro j u hu
 have hj : j < m := by
  have := h.len
  rcases Nat.lt_or_ge j cs.length with h' | h'
  · omega
  · rw [List.getElem?_eq_none h'] at hu; cases hu
 obtain ⟨b, off, e, _, _, hc⟩ := h.row (by omega)
 injection e with e
 subst e
 have hadd : (⟨b, off, none⟩ : Addr).add j = ⟨b, off + j, none⟩ := by unfold Addr.add; split <;> simp_all
 rw [hadd, (hc j hj).1, hu]
section
variable {P : Program} (w : World)
theorem run_append_of_nil (base : Nat) (t ty e : TypeId) (i : TypeInfo) (size : Nat) (ht : P.underlying t = some (.slice e)) (hi : P.info? e = some i)
  (v : Value) (n : Nat) (xs : List Value) (hown : w.ownsRow base e size v n xs) (c : Nat) : (Builtin.append_ #[t, t] ty #[v, .slice none 0 c]).run P w = .ok v w := by
 rcases hown.2 with ⟨rfl, rfl⟩ | ⟨g, cap, cur, rfl, _, _, hnc, _⟩
 · simp [Builtin.append_, run_underlying ht, sizeOf, typeInfo, hi, Builtin.lenOf, Builtin.firstCells]
 · simp [Builtin.append_, run_underlying ht, sizeOf, typeInfo, hi, Builtin.lenOf, Builtin.firstCells, hnc, storeCells]
theorem own_shape {base : Nat} {e : TypeId} {size n : Nat} {v : Value} {xs : List Value} {w : World} (h : w.ownsRow base e size v n xs) : ∃ A c, v = .slice A n c ∧ n ≤ c ∧ c ≤ maxLen := by
 rcases h.2 with ⟨rfl, rfl⟩ | ⟨g, cap, cur, rfl, _, _, hnc, hcm, _⟩
 · exact ⟨_, _, rfl, Nat.le_refl _, by simp [maxLen]⟩
 · exact ⟨_, _, rfl, hnc, hcm⟩
theorem own_cap {base : Nat} {e : TypeId} {size n c : Nat} {A : Option Addr} {xs : List Value} {w : World} (h : w.ownsRow base e size (.slice A n c) n xs) : n ≤ c := by
 obtain ⟨A', c', e, h1, _⟩ := own_shape h
 injection e with _ _ e
 omega
/-- append onto what the call owns, whatever is appended. -/
theorem run_append_raw (base : Nat) (t ty e : TypeId) (i : TypeInfo) (z : Value) (size bytes : Nat) (ht : P.underlying t = some (.slice e)) (hi : P.info? e = some i) (hz : i.zero = some z)
  (hsize : i.size = size) (hby : i.bytes = bytes) (hzs : z.cells.size = size) (hsz : 0 < size)
  (v : Value) (n : Nat) (xs : List Value) (hown : w.ownsRow base e size v n xs)
  (lo hi' : Nat) (A : Option Addr) (m c : Nat) (news : List Value) (hr : Raw w lo hi' A (m * size) news) (h1 : ∀ u ∈ news, u.oneCell' = true)
  (h63 : n + m ≤ maxLen) (hbytes : (n + m) * bytes ≤ 140737488355328) (hbase : base ≤ w.heap.size) :
  ∃ A' c' w', (Builtin.append_ #[t, t] ty #[v, .slice A m c]).run P w = .ok (.slice A' (n + m) c') w' ∧ w'.ownsRow base e size (.slice A' (n + m) c') (n + m) (xs ++ news) ∧ w.grownBy w' v.ownBlock ∧
   ((Value.slice A' (n + m) c').ownBlock = v.ownBlock ∨ (Value.slice A' (n + m) c').ownBlock = some w.heap.size) := by
 rcases A with _ | ad
 · have hm : m = 0 := by
     rcases Nat.eq_zero_or_pos (m * size) with h0 | h0
     · rcases Nat.mul_eq_zero.1 h0 with h0 | h0 <;> omega
     · obtain ⟨b, off, h, _⟩ := hr.row h0
       cases h
   subst hm
   have hn : news = [] := List.eq_nil_of_length_eq_zero (by simpa using hr.len)
   subst hn
   have hrun := run_append_of_nil (P := P) w base t ty e i size ht hi v n xs hown c
   obtain ⟨A', c', rfl, _⟩ := own_shape hown
   exact ⟨A', c', w, hrun, by simpa using hown, World.grownBy.refl w _, .inl rfl⟩
 · obtain ⟨v', w', hrun, h2, h3, _, h5⟩ := run_append_own_at (P := P) w base t ty e i z size bytes ht hi hz hsize hby hzs hsz v n xs hown ad m c news hr.len hr.at_ h1 h63 hbytes hbase
   obtain ⟨A', c', rfl, _⟩ := own_shape h2
   exact ⟨A', c', w', hrun, h2, h3, h5⟩
theorem wpList_append_raw {ops : Array Oper} {rest : List Oper} {o : Oper} {a : Act} {Q : Exit → Act → World → Prop} (hgd : o.guard = none) (s x : Operand) (t : TypeId)
  (ho : o.op = .call { callee := .builtin .append, args := #[s, x], argTypes := #[t, t] })
  (base : Nat) (e : TypeId) (i : TypeInfo) (z : Value) (size bytes : Nat) (ht : P.underlying t = some (.slice e)) (hi : P.info? e = some i) (hz : i.zero = some z)
  (hsize : i.size = size) (hby : i.bytes = bytes) (hzs : z.cells.size = size) (hsz : 0 < size)
  (v : Value) (n : Nat) (xs : List Value) (hs : a.eval s = v) (hown : w.ownsRow base e size v n xs)
  (lo hi' : Nat) (A : Option Addr) (m c : Nat) (news : List Value) (hx : a.eval x = .slice A m c) (hr : Raw w lo hi' A (m * size) news) (h1 : ∀ u ∈ news, u.oneCell' = true)
  (h63 : n + m ≤ maxLen) (hbytes : (n + m) * bytes ≤ 140737488355328) (hbase : base ≤ w.heap.size)
  (h : ∀ A' c' w', w'.ownsRow base e size (.slice A' (n + m) c') (n + m) (xs ++ news) → w.grownBy w' v.ownBlock → ((Value.slice A' (n + m) c').ownBlock = v.ownBlock ∨ (Value.slice A' (n + m) c').ownBlock = some w.heap.size) →
   wpList P ops Q rest (a.put o.dst (.slice A' (n + m) c')) w') :
  wpList P ops Q (o :: rest) a w := by
 refine wpList_plain hgd fun K hK => ?_
 obtain ⟨A', c', w', hr, h2, h3, h5⟩ := run_append_raw (P := P) w base t o.type e i z size bytes ht hi hz hsize hby hzs hsz v n xs hown lo hi' A m c news hr h1 h63 hbytes hbase
 unfold Oper.wp execOp
 simp only [ho, resolve, invoke, builtin, Sem.run_bind, Sem.run_pure, Result.andThen_ok, List.map_toArray, List.map_cons, List.map_nil, hs, hx, hr]
 exact hK _ _ (h A' c' w' h2 h3 h5)
end
/-- Block g has n cells at least, none of them frozen. -/
def Writable (w : World) (g n : Nat) : Prop := ∃ cur t, w.heap[g]? = some (.cells cur t (0, 0)) ∧ n ≤ cur.size
theorem Writable.of_own {w : World} {base : Nat} {e : TypeId} {A : Option Addr} {n c : Nat} {xs : List Value} (h : w.ownsRow base e 1 (.slice A n c) n xs) (hn : 0 < n) :
  ∃ g, A = some ⟨g, 0, none⟩ ∧ base ≤ g ∧ g < w.heap.size ∧ Writable w g n := by
 rcases h.2 with ⟨_, h0⟩ | ⟨g, cap, cur, hv, hb, hg, hnc, _, hcs, _⟩
 · omega
 · injection hv with hv
   exact ⟨g, hv, hb, (Array.getElem?_eq_some_iff.1 hg).1, cur, e, hg, by omega⟩
/-- An empty slice that is made. -/
theorem own_empty (w : World) (base : Nat) (e : TypeId) (size : Nat) (h : base ≤ w.heap.size) : (w.alloc (.cells #[] e)).ownsRow base e size (.slice (some ⟨w.heap.size, 0, none⟩) 0 0) 0 [] :=
 World.ownsRow_made w #[] 0 h (by simp [maxLen]) (by simp)
/-- One number that is laid in a block of its own, to be appended. -/
theorem raw_one (w : World) (k : IntKind) (x : Int) (t : TypeId) : Raw (w.alloc (.cells #[.int k x] t)) w.heap.size (w.heap.size + 1) (some ⟨w.heap.size, 0, none⟩) (1 * 1) [.int k x] := by
 refine ⟨rfl, fun _ => ⟨w.heap.size, 0, rfl, Nat.le_refl _, by omega, fun j hj => ?_⟩⟩
 obtain rfl : j = 0 := by omega
 simp [go_sem]
/-- What a list is when a slot is laid: three rules in one (short names: a claim's texts have a limit). -/
theorem zp {α : Type} : (∀ (l : List α) (i : Nat) (a : α), l.toArray.setIfInBounds i a = (l.set i a).toArray) ∧ (∀ (x y : α) (l : List α), (x :: l).set 0 y = y :: l) ∧ ∀ (x y : α) (l : List α) (n : Nat), (x :: l).set (n + 1) y = x :: l.set n y :=
 ⟨fun l i a => List.setIfInBounds_toArray l i a, fun _ _ _ => rfl, fun _ _ _ _ => rfl⟩
abbrev zT : Bool := true
abbrev zF : Bool := false
end Go.Proofs.YtmbppgjhdcmckaaGreatDoor
namespace Go.Proofs.YtmbppgjhdcmckaaGreatDoor
/-- The number of some digits. -/
def num (B : Nat) : List Int → Nat
 | [] => 0
 | x :: xs => x.toNat + B * num B xs
/-- Digits below B. -/
def Dig (B : Nat) (l : List Int) : Prop := ∀ x ∈ l, 0 ≤ x ∧ x < (B : Int)
/-- No 0 at the end. -/
def Cutd (l : List Int) : Prop := ∀ h : l ≠ [], l.getLast h ≠ 0
/-- A number's digits. -/
def canonF (B : Nat) : Nat → Nat → List Int
 | 0, _ => []
 | f + 1, n => if n = 0 then [] else ((n % B : Nat) : Int) :: canonF B f (n / B)
def canon (B n : Nat) : List Int := canonF B n n
theorem num_append (B : Nat) : ∀ (l m : List Int), num B (l ++ m) = num B l + B ^ l.length * num B m
 | [], m => by simp [num]
 | x :: l, m => by
  simp only [List.cons_append, num, num_append B l m, List.length_cons, Nat.pow_succ]
  rw [Nat.mul_add, ← Nat.mul_assoc, Nat.mul_comm B (B ^ l.length)]
  omega
theorem num_lt (B : Nat) (hB : 0 < B) : ∀ (l : List Int), Dig B l → num B l < B ^ l.length
 | [], _ => by simp [num]
 | x :: l, h => by
  have ih := num_lt B hB l fun y hy => h y (List.mem_cons_of_mem _ hy)
  have hx := h x (List.mem_cons_self ..)
  simp only [num, List.length_cons, Nat.pow_succ]
  have h1 : B * num B l + B ≤ B * B ^ l.length := by
   rw [← Nat.mul_succ]
   exact Nat.mul_le_mul_left _ ih
  rw [Nat.mul_comm (B ^ l.length) B]
  omega
theorem num_zeros (B k : Nat) : num B (List.replicate k 0) = 0 := by
 induction k with
 | zero => rfl
 | succ k ih => simp [List.replicate_succ, num, ih]
theorem Dig.tail {B : Nat} {x : Int} {l : List Int} (h : Dig B (x :: l)) : Dig B l := fun y hy => h y (List.mem_cons_of_mem _ hy)
theorem Cutd.tail {x : Int} {l : List Int} (h : Cutd (x :: l)) : Cutd l := fun hne => by
 have := h (by simp)
 rwa [List.getLast_cons hne] at this
theorem num_pos {B : Nat} : ∀ {l : List Int}, Dig B l → Cutd l → l ≠ [] → 0 < num B l
 | [x], hd, hc, _ => by
  have h1 := hc (by simp)
  have h2 := hd x (by simp)
  simp only [num]
  simp only [List.getLast_singleton] at h1
  omega
 | x :: y :: l, hd, hc, _ => by
  have ih := num_pos hd.tail hc.tail (by simp)
  have hB : 0 < B := by
   have := hd x (by simp)
   omega
  simp only [num] at ih ⊢
  have := Nat.mul_pos hB ih
  omega
/-- Two lists of digits without 0 at the end are one, if their numbers are. -/
theorem num_inj {B : Nat} : ∀ {l m : List Int}, Dig B l → Dig B m → Cutd l → Cutd m → num B l = num B m → l = m
 | [], [], _, _, _, _, _ => rfl
 | [], y :: m, _, hm, _, cm, h => by have := num_pos hm cm (by simp); simp only [num] at h this; omega
 | x :: l, [], hl, _, cl, _, h => by have := num_pos hl cl (by simp); simp only [num] at h this; omega
 | x :: l, y :: m, hl, hm, cl, cm, h => by
  have hx := hl x (by simp)
  have hy := hm y (by simp)
  simp only [num] at h
  have e1 : x.toNat = y.toNat := by
   have h1 : (x.toNat + B * num B l) % B = x.toNat := by rw [Nat.add_mul_mod_self_left, Nat.mod_eq_of_lt (by omega)]
   have h2 : (y.toNat + B * num B m) % B = y.toNat := by rw [Nat.add_mul_mod_self_left, Nat.mod_eq_of_lt (by omega)]
   rw [← h1, ← h2, h]
  have e2 : num B l = num B m := by
   have : B * num B l = B * num B m := by omega
   exact Nat.eq_of_mul_eq_mul_left (by omega) this
  rw [num_inj hl.tail hm.tail cl.tail cm.tail e2]
  congr 1
  omega
theorem canonF_spec (B : Nat) (hB : 2 ≤ B) : ∀ (f n : Nat), n ≤ f → Dig B (canonF B f n) ∧ Cutd (canonF B f n) ∧ num B (canonF B f n) = n
 | 0, n, h => by
  obtain rfl : n = 0 := by omega
  exact ⟨fun x hx => by simp [canonF] at hx, fun h => absurd rfl h, rfl⟩
 | f + 1, n, h => by
  by_cases h0 : n = 0
  · subst h0
    exact ⟨fun x hx => by simp [canonF] at hx, fun h => absurd (by simp [canonF]) h, by simp [canonF, num]⟩
  · have hlt : n / B < n := Nat.div_lt_self (by omega) (by omega)
    obtain ⟨i1, i2, i3⟩ := canonF_spec B hB f (n / B) (by omega)
    have e : canonF B (f + 1) n = ((n % B : Nat) : Int) :: canonF B f (n / B) := by simp [canonF, h0]
    rw [e]
    have hm := Nat.mod_lt n (show 0 < B by omega)
    refine ⟨fun x hx => ?_, fun hne => ?_, ?_⟩
    · rcases List.mem_cons.1 hx with rfl | hx
      · omega
      · exact i1 x hx
    · by_cases hn : canonF B f (n / B) = []
      · have h3 : n / B = 0 := by rw [← i3, hn]; rfl
        have h4 := Nat.div_add_mod n B
        rw [h3] at h4
        simp only [hn, List.getLast_singleton]
        omega
      · rw [List.getLast_cons hn]
        exact i2 hn
    · simp only [num, i3, Int.toNat_natCast]
      exact Nat.mod_add_div n B
theorem canon_spec (B n : Nat) (hB : 2 ≤ B) : Dig B (canon B n) ∧ Cutd (canon B n) ∧ num B (canon B n) = n := canonF_spec B hB n n (Nat.le_refl _)
theorem canon_of {B n : Nat} {l : List Int} (hB : 2 ≤ B) (hd : Dig B l) (hc : Cutd l) (hn : num B l = n) : l = canon B n := by
 obtain ⟨h1, h2, h3⟩ := canon_spec B n hB
 exact num_inj hd h1 hc h2 (hn.trans h3.symm)
theorem canon_zero (B : Nat) : canon B 0 = [] := rfl
theorem canon_nil {B n : Nat} (hB : 2 ≤ B) (h : canon B n = []) : n = 0 := by
 obtain ⟨_, _, h3⟩ := canon_spec B n hB
 rw [h] at h3
 exact h3.symm
/-- A number has as many digits as its size asks. -/
theorem canon_len {B n k : Nat} (hB : 2 ≤ B) (h : n < B ^ k) : (canon B n).length ≤ k := by
 obtain ⟨h1, h2, h3⟩ := canon_spec B n hB
 rcases Nat.lt_or_ge k (canon B n).length with hk | hk
 · exfalso
   have hne : canon B n ≠ [] := fun e => by rw [e] at hk; simp at hk
   have hl := h2 hne
   have hsplit : canon B n = (canon B n).dropLast ++ [(canon B n).getLast hne] := (List.dropLast_concat_getLast hne).symm
   have hn : num B (canon B n) = num B (canon B n).dropLast + B ^ (canon B n).dropLast.length * ((canon B n).getLast hne).toNat := by
    conv => lhs; rw [hsplit]
    rw [num_append]
    simp [num]
   have hd := h1 _ (List.getLast_mem hne)
   have h4 : B ^ k ≤ B ^ (canon B n).dropLast.length := Nat.pow_le_pow_right (by omega) (by simp; omega)
   have h5 : B ^ (canon B n).dropLast.length * 1 ≤ B ^ (canon B n).dropLast.length * ((canon B n).getLast hne).toNat := Nat.mul_le_mul_left _ (by omega)
   omega
 · exact hk
end Go.Proofs.YtmbppgjhdcmckaaGreatDoor
namespace Go.Proofs.YtmbppgjhdcmckaaGreatDoor
open Go.RowKit
namespace Dy
theorem ret_bool {a b : Bool} (h : a = b) : Ending.returned (.bool a) = .returned (.bool b) := by rw [h]
theorem ret_int {k : IntKind} {a b : Int} (h : a = b) : Ending.returned (.int k a) = .returned (.int k b) := by rw [h]
theorem get {k : IntKind} {xs : List Int} {A : Option Addr} {n : Nat} {w : World} {lo hi : Nat} (h : Ints w lo hi k A n xs) (hn : 0 < n) :
  ∃ b off, A = some ⟨b, off, none⟩ ∧ ∀ j, j < n → w.cell? ⟨b, off + j, none⟩ = some (.int k (xs[j]?.getD 0)) := by
 obtain ⟨b, off, e, _, _, hc⟩ := h.row hn
 exact ⟨b, off, e, fun j hj => (hc j hj).1⟩
theorem cut_stop {B : Nat} {xs : List Int} {k : Nat} (hB : 2 ≤ B) (hd : Dig B xs) (hk : k ≤ xs.length) (hn : num B (xs.take k) = num B xs) (hs : k = 0 ∨ xs[k - 1]?.getD 0 ≠ 0) : xs.take k = canon B (num B xs) := by
 refine canon_of hB (fun x hx => hd x (List.mem_of_mem_take hx)) (fun hne => ?_) hn
 have hk0 : k ≠ 0 := fun e => hne (by rw [e]; rfl)
 have h1 := hs.resolve_left hk0
 rw [List.getLast_eq_getElem]
 simp only [List.length_take, List.getElem_take]
 have e : min k xs.length - 1 = k - 1 := by omega
 simp only [e]
 rwa [List.getElem?_eq_getElem (by omega)] at h1
theorem cut_on {B : Nat} {xs : List Int} {k : Nat} (hk : k + 1 ≤ xs.length) (hn : num B (xs.take (k + 1)) = num B xs) (hz : xs[k]?.getD 0 = 0) : num B (xs.take k) = num B xs := by
 rw [← hn, List.take_succ_eq_append_getElem (by omega), num_append]
 rw [List.getElem?_eq_getElem (by omega)] at hz
 simp only [Option.getD_some] at hz
 simp [num, hz]
end Dy
end Go.Proofs.YtmbppgjhdcmckaaGreatDoor
namespace Go.Proofs.YtmbppgjhdcmckaaGreatDoor
open Go.RowKit
namespace Dy
theorem Tryz.info5 : (Tryz.prog.info? 5).map (fun i => (i.zero, i.size, i.bytes)) = some (some (.int .u8 0), 1, 1) := by kernel_rfl
theorem take_num (B : Nat) (l : List Int) (k : Nat) : num B (l.take (k + 1)) = num B (l.take k) + B ^ k * (l[k]?.getD 0).toNat := by
 by_cases h : k < l.length
 · rw [List.take_succ_eq_append_getElem h, num_append, List.getElem?_eq_getElem h]
   simp [num, Nat.min_eq_left (Nat.le_of_lt h)]
 · rw [List.take_of_length_le (by omega), List.take_of_length_le (by omega), List.getElem?_eq_none (by omega)]
   simp
end Dy
end Go.Proofs.YtmbppgjhdcmckaaGreatDoor
namespace Go.Proofs.YtmbppgjhdcmckaaGreatDoor
open Go.RowKit
namespace Dy
theorem num_split (B : Nat) (l : List Int) (k : Nat) : num B l = num B (l.take k) + B ^ k * num B (l.drop k) := by
 by_cases h : k ≤ l.length
 · conv => lhs; rw [← List.take_append_drop k l]
   rw [num_append]
   simp [Nat.min_eq_left h]
 · rw [List.take_of_length_le (by omega), List.drop_eq_nil_of_le (by omega)]
   simp [num]
end Dy
end Go.Proofs.YtmbppgjhdcmckaaGreatDoor
namespace Go.Proofs.YtmbppgjhdcmckaaGreatDoor
namespace Dp
/-- The whole number of a sign and a size. -/
def sg (s : Bool) (m : Nat) : Int := if s then -(m : Int) else m
theorem sg_zero (s : Bool) : sg s 0 = 0 := by simp [sg]
theorem sg_inj {s t : Bool} {m n : Nat} (h : sg s m = sg t n) (hm : m ≠ 0) : s = t ∧ m = n := by
 unfold sg at h
 cases s <;> cases t <;> simp at h ⊢ <;> omega
theorem sg_nil {s : Bool} {m : Nat} (h : sg s m = 0) : m = 0 := by
 unfold sg at h
 split at h <;> omega
/-- Factors of 2 taken away, k of them at most. -/
def strip : Nat → Nat → Nat × Nat
 | 0, m => (m, 0)
 | k + 1, m => if m % 2 = 0 then strip k (m / 2) else (m, k + 1)
theorem strip_spec : ∀ (k m : Nat), ∃ j, j ≤ k ∧ (strip k m).2 = k - j ∧ m = (strip k m).1 * 2 ^ j ∧ (j = k ∨ (strip k m).1 % 2 = 1)
 | 0, m => ⟨0, Nat.le_refl _, rfl, by simp [strip], .inl rfl⟩
 | k + 1, m => by
  by_cases h : m % 2 = 0
  · obtain ⟨j, h1, h2, h3, h4⟩ := strip_spec k (m / 2)
    have e : strip (k + 1) m = strip k (m / 2) := by simp [strip, h]
    rw [e]
    refine ⟨j + 1, by omega, by omega, ?_, by omega⟩
    rw [Nat.pow_succ, ← Nat.mul_assoc, ← h3]
    omega
  · have e : strip (k + 1) m = (m, k + 1) := by simp [strip, h]
    rw [e]
    exact ⟨0, by omega, by simp, by simp, .inr (by simp; omega)⟩
theorem strip_of : ∀ (k j m : Nat), j ≤ k → (j = k ∨ m % 2 = 1) → strip k (m * 2 ^ j) = (m, k - j)
 | 0, j, m, h, _ => by
  obtain rfl : j = 0 := by omega
  simp [strip]
 | k + 1, 0, m, _, h => by
  have h1 : m % 2 = 1 := by omega
  simp [strip, h1]
 | k + 1, j + 1, m, h, h2 => by
  have e : m * 2 ^ (j + 1) = m * 2 ^ j * 2 := by rw [Nat.pow_succ, Nat.mul_assoc]
  have ih := strip_of k j m (by omega) (by omega)
  rw [e]
  simp only [strip]
  rw [if_pos (by omega), Nat.mul_div_cancel _ (by omega), ih]
  congr 1
  omega
/-- A dyad's numbers: whether it is below 0, its limbs' number, its exponent. -/
structure Dn where
 neg : Bool
 m : Nat
 e : Nat
deriving DecidableEq
def Dn.zero : Dn := ⟨false, 0, 0⟩
/-- The numbers of 40 limbs. -/
def capE : Nat := 1280
theorem capE_eq : capE = 1280 := rfl
def capD : Nat := 2 ^ capE
theorem capD_eq : capD = 2 ^ capE := rfl
theorem capD_gt {m k : Nat} (h : m < 2 ^ k) (hk : k ≤ 1280) : m < capD := Nat.lt_of_lt_of_le h (Nat.pow_le_pow_right (by decide) hk)
def Dn.May (a : Dn) : Prop := a.m < capD ∧ a.e ≤ 1024 ∧ (a.m = 0 → a.e = 0 ∧ a.neg = false) ∧ (0 < a.e → a.m % 2 = 1)
theorem zero_may : Dn.zero.May := ⟨capD_gt (k := 0) (by decide) (by decide), by decide, by decide, by decide⟩
theorem may_zero {a : Dn} (h : a.May) (h0 : a.m = 0) : a = Dn.zero := by
 obtain ⟨h1, h2⟩ := h.2.2.1 h0
 cases a
 simp_all [Dn.zero]
/-- So many parts of 2^-k as a dyad. -/
def formed (s : Bool) (m k : Nat) : Dn × Int :=
 if m = 0 then (Dn.zero, 0) else if (strip k m).1 < capD ∧ (strip k m).2 ≤ 1024 then (⟨s, (strip k m).1, (strip k m).2⟩, 0) else (Dn.zero, 10)
/-- A dyad in parts of 2^-k. -/
def vl (a : Dn) (k : Nat) : Int := sg a.neg (a.m * 2 ^ (k - a.e))
theorem formed_may (s : Bool) (m k : Nat) : (formed s m k).1.May := by
 unfold formed
 split
 · exact zero_may
 · split
   · rename_i h0 h1
     obtain ⟨j, h2, h3, h4, h5⟩ := strip_spec k m
     refine ⟨h1.1, h1.2, fun h => ?_, fun h => ?_⟩
     · simp only at h
       rw [h] at h4
       omega
     · simp only at h ⊢
       omega
   · exact zero_may
theorem formed_of {s : Bool} {m k K : Nat} {r : Dn} (hr : r.May) (he : r.e ≤ K) (hk : k ≤ K) (h : vl r K = sg s (m * 2 ^ (K - k))) : formed s m k = (r, 0) := by
 unfold vl at h
 have p1 := Nat.pow_pos (n := K - k) (show 0 < 2 by omega)
 have p2 := Nat.pow_pos (n := K - r.e) (show 0 < 2 by omega)
 by_cases h0 : m = 0
 · subst h0
   rw [Nat.zero_mul, sg_zero] at h
   have h1 : r.m = 0 := by
    rcases Nat.mul_eq_zero.1 (sg_nil h) with h1 | h1
    · exact h1
    · omega
   rw [may_zero hr h1]
   simp [formed]
 · have h1 : r.m ≠ 0 := fun e => by
     rw [e, Nat.zero_mul, sg_zero] at h
     rcases Nat.mul_eq_zero.1 (sg_nil h.symm) with h1 | h1 <;> omega
   have h2 : r.m * 2 ^ (K - r.e) ≠ 0 := Nat.mul_ne_zero h1 (by omega)
   obtain ⟨rfl, h3⟩ := sg_inj h h2
   have h4 : r.e ≤ k := by
    rcases Nat.lt_or_ge k r.e with hlt | hge
    · exfalso
      have e : K - k = (r.e - k - 1) + 1 + (K - r.e) := by omega
      rw [e, Nat.pow_add, ← Nat.mul_assoc] at h3
      have h5 := Nat.eq_of_mul_eq_mul_right p2 h3
      have h6 := hr.2.2.2 (by omega)
      rw [h5, Nat.pow_succ, ← Nat.mul_assoc] at h6
      omega
    · exact hge
   have e : K - r.e = (k - r.e) + (K - k) := by omega
   rw [e, Nat.pow_add, ← Nat.mul_assoc] at h3
   have h5 := Nat.eq_of_mul_eq_mul_right p1 h3
   have h6 := strip_of k (k - r.e) r.m (by omega) (by
    rcases Nat.eq_zero_or_pos r.e with h7 | h7
    · left; omega
    · right; exact hr.2.2.2 h7)
   unfold formed
   rw [if_neg h0, ← h5, h6]
   have e2 : k - (k - r.e) = r.e := by omega
   simp only [e2]
   rw [if_pos ⟨hr.1, hr.2.1⟩]
def halfD (a : Dn) : Dn × Int := formed a.neg a.m (a.e + 1)
/-- How two stand. -/
def cmpD (a b : Dn) : Int := if vl a (max a.e b.e) < vl b (max a.e b.e) then -1 else if vl a (max a.e b.e) = vl b (max a.e b.e) then 0 else 1
end Dp
end Go.Proofs.YtmbppgjhdcmckaaGreatDoor
namespace Go.Proofs.YtmbppgjhdcmckaaGreatDoor
namespace Dp
/-! ### Digits -/
theorem split_ (B : Nat) (l : List Int) (k : Nat) : num B l = num B (l.take k) + B ^ k * num B (l.drop k) := by
 by_cases h : k ≤ l.length
 · conv => lhs; rw [← List.take_append_drop k l]
   rw [num_append, List.length_take, Nat.min_eq_left h]
 · rw [List.take_of_length_le (by omega), List.drop_eq_nil_of_le (by omega)]
   simp [num]
theorem take_next (B : Nat) (l : List Int) (k : Nat) : num B (l.take (k + 1)) = num B (l.take k) + B ^ k * (l[k]?.getD 0).toNat := by
 by_cases h : k < l.length
 · rw [List.take_succ_eq_append_getElem h, num_append, List.getElem?_eq_getElem h]
   simp [num, Nat.min_eq_left (Nat.le_of_lt h)]
 · rw [List.take_of_length_le (by omega), List.take_of_length_le (by omega), List.getElem?_eq_none (by omega)]
   simp
theorem dig_take {B : Nat} {l : List Int} (h : Dig B l) (k : Nat) : Dig B (l.take k) := fun x hx => h x (List.mem_of_mem_take hx)
theorem dig_get {B : Nat} (hB : 0 < B) {l : List Int} (h : Dig B l) (k : Nat) : ∃ d : Nat, l[k]?.getD 0 = (d : Int) ∧ d < B := by
 by_cases hk : k < l.length
 · rw [List.getElem?_eq_getElem hk]
   have := h _ (List.getElem_mem hk)
   exact ⟨l[k].toNat, by simp only [Option.getD_some]; omega, by omega⟩
 · rw [List.getElem?_eq_none (by omega)]
   exact ⟨0, rfl, hB⟩
theorem dig_set {B : Nat} {l : List Int} (h : Dig B l) (k d : Nat) (hd : d < B) : Dig B (l.set k (d : Int)) := fun x hx => by
 rcases List.mem_or_eq_of_mem_set hx with h' | h'
 · exact h x h'
 · subst h'; omega
theorem take_lt {B : Nat} (hB : 0 < B) {l : List Int} (h : Dig B l) (k : Nat) : num B (l.take k) < B ^ k := by
 have h1 := num_lt B hB (l.take k) (dig_take h k)
 exact Nat.lt_of_lt_of_le h1 (Nat.pow_le_pow_right hB (by simp; omega))
/-- A digit of a list's number. -/
theorem digit {B : Nat} (hB : 0 < B) {l : List Int} (h : Dig B l) (k : Nat) : l[k]?.getD 0 = ((num B l / B ^ k % B : Nat) : Int) := by
 obtain ⟨d, hd, hlt⟩ := dig_get hB h k
 have h1 := split_ B l (k + 1)
 rw [take_next, hd, Int.toNat_natCast] at h1
 have h2 := take_lt hB h k
 have hp : 0 < B ^ k := Nat.pow_pos hB
 have e : num B l / B ^ k = d + B * num B (l.drop (k + 1)) := by
  rw [h1, Nat.pow_succ, Nat.mul_assoc, Nat.add_assoc, ← Nat.mul_add, Nat.add_mul_div_left _ _ hp, Nat.div_eq_of_lt h2]
  omega
 rw [hd, e, Nat.add_mul_mod_self_left, Nat.mod_eq_of_lt hlt]
/-- A list whose digits are a number's is that number. -/
theorem num_of {B : Nat} : ∀ (l : List Int) (M : Nat), (∀ j, j < l.length → l[j]?.getD 0 = ((M / B ^ j % B : Nat) : Int)) → M < B ^ l.length → num B l = M
 | [], M, _, h => by simp at h; simp [num, h]
 | x :: l, M, h, hM => by
  have h0 := h 0 (by simp)
  simp at h0
  have ih := num_of l (M / B) (fun j hj => by
   have := h (j + 1) (by simpa using hj)
   simp only [List.getElem?_cons_succ] at this
   rw [this, Nat.pow_succ, Nat.mul_comm, Nat.div_div_eq_div_mul]) (by
   rw [List.length_cons, Nat.pow_succ, Nat.mul_comm] at hM
   exact Nat.div_lt_of_lt_mul hM)
  simp only [num]
  rw [ih, h0]
  have := Nat.mod_add_div M B
  omega
theorem last_ (B : Nat) (l : List Int) (h : l ≠ []) : num B l = num B l.dropLast + B ^ (l.length - 1) * (l.getLast h).toNat := by
 conv => lhs; rw [← List.dropLast_concat_getLast h]
 rw [num_append]
 simp [num]
theorem cutd_ge {B : Nat} (hB : 0 < B) {l : List Int} (hd : Dig B l) (hg : l ≠ [] → B ^ (l.length - 1) ≤ num B l) : Cutd l := fun h h0 => by
 have h1 := hg h
 rw [last_ B l h, h0] at h1
 have h2 := num_lt B hB l.dropLast fun x hx => hd x (List.dropLast_subset _ hx)
 simp at h1 h2
 omega
theorem canon_digits {B : Nat} (hB : 2 ≤ B) {l : List Int} {M : Nat} (h : ∀ j, j < l.length → l[j]?.getD 0 = ((M / B ^ j % B : Nat) : Int)) (hM : M < B ^ l.length) (hg : l ≠ [] → B ^ (l.length - 1) ≤ M) : l = canon B M := by
 have hn := num_of l M h hM
 have hd : Dig B l := fun x hx => by
  obtain ⟨j, hj, rfl⟩ := List.getElem_of_mem hx
  have h1 := h j hj
  rw [List.getElem?_eq_getElem hj, Option.getD_some] at h1
  have h2 := Nat.mod_lt (M / B ^ j) (show 0 < B by omega)
  omega
 exact canon_of hB hd (cutd_ge (by omega) hd fun hne => by rw [hn]; exact hg hne) hn
theorem set_num (B : Nat) : ∀ (l : List Int) (j : Nat) (v : Int), j < l.length → num B (l.set j v) + B ^ j * (l[j]?.getD 0).toNat = num B l + B ^ j * v.toNat
 | [], j, v, h => by simp at h
 | x :: l, 0, v, _ => by simp [num]; omega
 | x :: l, j + 1, v, h => by
  have ih := set_num B l j v (by simpa using h)
  simp only [List.set_cons_succ, num, List.getElem?_cons_succ, Nat.pow_succ]
  have e1 : B ^ j * B * (l[j]?.getD 0).toNat = B * (B ^ j * (l[j]?.getD 0).toNat) := by rw [Nat.mul_comm (B ^ j) B, Nat.mul_assoc]
  have e2 : B ^ j * B * v.toNat = B * (B ^ j * v.toNat) := by rw [Nat.mul_comm (B ^ j) B, Nat.mul_assoc]
  rw [e1, e2]
  have : B * num B (l.set j v) + B * (B ^ j * (l[j]?.getD 0).toNat) = B * num B l + B * (B ^ j * v.toNat) := by rw [← Nat.mul_add, ih, Nat.mul_add]
  omega
theorem set_take (B : Nat) (l : List Int) (k : Nat) (v : Int) (h : k < l.length) : num B ((l.set k v).take (k + 1)) = num B (l.take k) + B ^ k * v.toNat := by
 rw [take_next, List.take_set_of_le (Nat.le_refl _), List.getElem?_set_self h]
 rfl
theorem set_far (l : List Int) {k j : Nat} (v : Int) (h : k ≠ j) : (l.set k v)[j]?.getD 0 = l[j]?.getD 0 := by
 rw [List.getElem?_set_ne h]
/-! ### Limbs of 32 bits -/
theorem pow32 (k : Nat) : 4294967296 ^ k = 2 ^ (32 * k) := by rw [Nat.pow_mul]
/-- One limb of a number that is shifted to the right. -/
theorem at_law (M r : Nat) (hr : r < 32) : (((M / 4294967296 % 4294967296) * 4294967296 + M % 4294967296) / 2 ^ r) % 4294967296 = M / 2 ^ r % 4294967296 := by
 have e1 : (M / 4294967296 % 4294967296) * 4294967296 + M % 4294967296 = M % 2 ^ 64 := by omega
 rw [e1]
 have hp : 0 < 2 ^ r := Nat.pow_pos (by decide)
 have e2 : M = 2 ^ r * (2 ^ (64 - r) * (M / 2 ^ 64)) + M % 2 ^ 64 := by
  rw [← Nat.mul_assoc, ← Nat.pow_add, show r + (64 - r) = 64 by omega]
  omega
 have e3 : M / 2 ^ r = 2 ^ (64 - r) * (M / 2 ^ 64) + M % 2 ^ 64 / 2 ^ r := by
  conv => lhs; rw [e2]
  rw [Nat.mul_add_div hp]
 have e4 : 2 ^ (64 - r) = 4294967296 * 2 ^ (32 - r) := by
  rw [show (4294967296 : Nat) = 2 ^ 32 by rfl, ← Nat.pow_add]
  congr 1
  omega
 rw [e3, e4, Nat.mul_assoc, Nat.mul_add_mod]
theorem at_limb {l : List Int} (hd : Dig 4294967296 l) (i k : Nat) (hi lo : Nat) (h1 : l[i + k / 32 + 1]?.getD 0 = (hi : Int)) (h0 : l[i + k / 32]?.getD 0 = (lo : Int)) :
  ((hi * 4294967296 + lo) / 2 ^ (k % 32)) % 4294967296 = num 4294967296 l / 2 ^ k / 4294967296 ^ i % 4294967296 := by
 rw [digit (by decide) hd] at h1 h0
 have h1' : num 4294967296 l / 4294967296 ^ (i + k / 32 + 1) % 4294967296 = hi := by omega
 have h0' : num 4294967296 l / 4294967296 ^ (i + k / 32) % 4294967296 = lo := by omega
 rw [Nat.pow_succ, ← Nat.div_div_eq_div_mul] at h1'
 have := at_law (num 4294967296 l / 4294967296 ^ (i + k / 32)) (k % 32) (Nat.mod_lt _ (by decide))
 rw [h1', h0'] at this
 rw [this, Nat.div_div_eq_div_mul, Nat.div_div_eq_div_mul, pow32, pow32, ← Nat.pow_add, ← Nat.pow_add]
 congr 3
 omega
theorem wide_bound {ws xs : List Int} {i k : Nat} (hx : Dig 4294967296 xs) (h : num 4294967296 ws = num 4294967296 (xs.take i) * 2 ^ k) :
  num 4294967296 ws < 4294967296 ^ (i + k / 32) * 2 ^ (k % 32) := by
 have h1 := take_lt (by decide) hx i
 have ek : k = 32 * (k / 32) + k % 32 := by omega
 have e2 : (2 : Nat) ^ k = 4294967296 ^ (k / 32) * 2 ^ (k % 32) := by rw [pow32, ← Nat.pow_add, ← ek]
 rw [h, Nat.pow_add, Nat.mul_assoc, ← e2]
 exact Nat.mul_lt_mul_of_pos_right h1 (Nat.pow_pos (by decide))
theorem wide_p {ws : List Int} {j r p : Nat} (hw : Dig 4294967296 ws) (hb : num 4294967296 ws < 4294967296 ^ j * 2 ^ r) (hp : ws[j]?.getD 0 = (p : Int)) : p < 2 ^ r := by
 rw [digit (by decide) hw] at hp
 have h2 : num 4294967296 ws / 4294967296 ^ j % 4294967296 = p := Int.ofNat.inj hp
 have h3 : num 4294967296 ws / 4294967296 ^ j < 2 ^ r := Nat.div_lt_of_lt_mul hb
 rw [← h2]
 exact Nat.lt_of_le_of_lt (Nat.mod_le _ _) h3
theorem wide_z {ws : List Int} {j r : Nat} (hr : r < 32) (hw : Dig 4294967296 ws) (hb : num 4294967296 ws < 4294967296 ^ j * 2 ^ r) : ws[j + 1]?.getD 0 = 0 := by
 have hr2 : 2 ^ r ≤ 2 ^ 32 := Nat.pow_le_pow_right (by decide) (by omega)
 have h2 : num 4294967296 ws < 4294967296 ^ (j + 1) := Nat.lt_of_lt_of_le hb (by rw [Nat.pow_succ]; exact Nat.mul_le_mul_left _ hr2)
 rw [digit (by decide) hw, Nat.div_eq_of_lt h2]
 rfl
theorem wide_sum {x p r : Nat} (hr : r < 32) (hp1 : p < 2 ^ r) : p + x * 2 ^ r % 4294967296 < 4294967296 := by
 have e : (4294967296 : Nat) = 2 ^ r * 2 ^ (32 - r) := by rw [← Nat.pow_add, show r + (32 - r) = 32 by omega]
 have h2 : x * 2 ^ r % 4294967296 = 2 ^ r * (x % 2 ^ (32 - r)) := by
  conv => lhs; rw [e, Nat.mul_comm x]
  rw [Nat.mul_mod_mul_left]
 have h3 : x % 2 ^ (32 - r) < 2 ^ (32 - r) := Nat.mod_lt _ (Nat.pow_pos (by decide))
 have h4 : 2 ^ r * (x % 2 ^ (32 - r)) + 2 ^ r ≤ 4294967296 := by
  conv => rhs; rw [e]
  rw [← Nat.mul_succ]
  exact Nat.mul_le_mul_left _ h3
 rw [h2]
 exact Nat.lt_of_lt_of_le (by rw [Nat.add_comm]; exact Nat.add_lt_add_left hp1 _) h4
theorem wide_hi {x r : Nat} (hr : r < 32) (hx : x < 4294967296) : x * 2 ^ r / 4294967296 < 4294967296 := by
 have hr2 : 2 ^ r ≤ 2 ^ 32 := Nat.pow_le_pow_right (by decide) (by omega)
 have h1 : x * 2 ^ r < 4294967296 * 2 ^ r := Nat.mul_lt_mul_of_pos_right hx (Nat.pow_pos (by decide))
 exact Nat.lt_of_lt_of_le (Nat.div_lt_of_lt_mul h1) hr2
theorem wide_num (B : Nat) {ws : List Int} {j p a b : Nat} (hl : j + 1 < ws.length) (hp : ws[j]?.getD 0 = (p : Int)) (hz : ws[j + 1]?.getD 0 = 0) :
  num B ((ws.set j ((p + a : Nat) : Int)).set (j + 1) ((b : Nat) : Int)) = num B ws + B ^ j * (a + B * b) := by
 have s1 := set_num B ws j ((p + a : Nat) : Int) (by omega)
 have s2 := set_num B (ws.set j ((p + a : Nat) : Int)) (j + 1) ((b : Nat) : Int) (by simp; omega)
 rw [set_far _ _ (by omega), hz] at s2
 rw [hp] at s1
 simp only [Int.toNat_natCast, Int.toNat_zero, Nat.mul_zero, Nat.add_zero] at s1 s2
 rw [s2, Nat.pow_succ, Nat.mul_assoc, Nat.mul_add]
 rw [Nat.mul_add] at s1
 generalize B ^ j * p = P at *
 generalize B ^ j * a = Q at *
 generalize B ^ j * (B * b) = R at *
 omega
theorem wide_next {ws xs : List Int} {i k x : Nat} (h : num 4294967296 ws = num 4294967296 (xs.take i) * 2 ^ k) (hxi : xs[i]?.getD 0 = (x : Int)) :
  num 4294967296 (xs.take (i + 1)) * 2 ^ k = num 4294967296 ws + 4294967296 ^ (i + k / 32) * (x * 2 ^ (k % 32)) := by
 have ek : k = 32 * (k / 32) + k % 32 := by omega
 have e2 : (2 : Nat) ^ k = 4294967296 ^ (k / 32) * 2 ^ (k % 32) := by rw [pow32, ← Nat.pow_add, ← ek]
 rw [take_next, hxi, Int.toNat_natCast, Nat.add_mul, ← h, e2, Nat.pow_add]
 generalize 4294967296 ^ i = a
 generalize 4294967296 ^ (k / 32) = b
 generalize 2 ^ (k % 32) = c
 congr 1
 simp only [Nat.mul_left_comm, Nat.mul_comm]
/-- A number's limb is laid into shifted ones. -/
theorem wide_law {ws xs : List Int} {i k x p : Nat} (hw : Dig 4294967296 ws) (hx : Dig 4294967296 xs) (hl : i + k / 32 + 1 < ws.length) (h : num 4294967296 ws = num 4294967296 (xs.take i) * 2 ^ k)
  (hxi : xs[i]?.getD 0 = (x : Int)) (hp : ws[i + k / 32]?.getD 0 = (p : Int)) :
  p < 2 ^ (k % 32) ∧ ws[i + k / 32 + 1]?.getD 0 = 0 ∧ p + x * 2 ^ (k % 32) % 4294967296 < 4294967296 ∧ x * 2 ^ (k % 32) / 4294967296 < 4294967296 ∧
   Dig 4294967296 ((ws.set (i + k / 32) ((p + x * 2 ^ (k % 32) % 4294967296 : Nat) : Int)).set (i + k / 32 + 1) ((x * 2 ^ (k % 32) / 4294967296 : Nat) : Int)) ∧
   num 4294967296 ((ws.set (i + k / 32) ((p + x * 2 ^ (k % 32) % 4294967296 : Nat) : Int)).set (i + k / 32 + 1) ((x * 2 ^ (k % 32) / 4294967296 : Nat) : Int)) = num 4294967296 (xs.take (i + 1)) * 2 ^ k := by
 have hx2 : x < 4294967296 := by
  obtain ⟨d, hd, hlt⟩ := dig_get (by decide) hx i
  rw [hxi] at hd
  rw [Int.ofNat.inj hd]
  exact hlt
 have hr : k % 32 < 32 := Nat.mod_lt _ (by decide)
 have hb := wide_bound hx h
 have h1 := wide_p hw hb hp
 have h2 := wide_z hr hw hb
 have h3 := wide_sum (x := x) hr h1
 have h4 := wide_hi hr hx2
 refine ⟨h1, h2, h3, h4, dig_set (dig_set hw _ _ h3) _ _ h4, ?_⟩
 rw [wide_num 4294967296 hl hp h2, wide_next h hxi, Nat.mod_add_div]
/-- A limb of a difference, in place: d is it, c2 what is borrowed. -/
theorem diff_law {B : Nat} {cur us vs : List Int} {i c u v d c2 : Nat} (hl : i < cur.length) (h : num B (us.take i) + B ^ i * c = num B (cur.take i) + num B (vs.take i)) (hu : us[i]?.getD 0 = (u : Int)) (hv : vs[i]?.getD 0 = (v : Int)) (hd : u + B * c2 = d + v + c) :
  num B (us.take (i + 1)) + B ^ (i + 1) * c2 = num B ((cur.set i ((d : Nat) : Int)).take (i + 1)) + num B (vs.take (i + 1)) := by
 rw [set_take _ _ _ _ hl, take_next, take_next, hu, hv]
 simp only [Int.toNat_natCast, Nat.pow_succ]
 have e : B ^ i * u + B ^ i * B * c2 = B ^ i * d + B ^ i * v + B ^ i * c := by
  rw [Nat.mul_assoc, ← Nat.mul_add, hd, Nat.mul_add, Nat.mul_add]
 omega
theorem diff_end {B N : Nat} {cur us vs : List Int} {c : Nat} (hB : 0 < B) (hdc : Dig B cur) (hc : cur.length = N) (hu : us.length = N) (hv : vs.length = N) (h : num B (us.take N) + B ^ N * c = num B (cur.take N) + num B (vs.take N)) (hb : num B vs ≤ num B us) : num B cur = num B us - num B vs := by
 rw [List.take_of_length_le (by omega), List.take_of_length_le (by omega), List.take_of_length_le (by omega)] at h
 rcases Nat.eq_zero_or_pos c with h0 | h0
 · subst h0; omega
 · have h1 : B ^ N * 1 ≤ B ^ N * c := Nat.mul_le_mul_left _ h0
   have h2 := num_lt B hB cur hdc
   rw [hc] at h2
   omega
/-- How two stand is told by the highest limb that differs. -/
theorem less_by {B : Nat} (hB : 0 < B) {xs ys : List Int} {i : Nat} (hdx : Dig B xs) (heq : xs.drop (i + 1) = ys.drop (i + 1)) (hlt : (xs[i]?.getD 0).toNat < (ys[i]?.getD 0).toNat) : num B xs < num B ys := by
 rw [split_ B xs (i + 1), split_ B ys (i + 1), heq, take_next, take_next]
 have h1 := take_lt hB hdx i
 have h2 : B ^ i * (xs[i]?.getD 0).toNat + B ^ i ≤ B ^ i * (ys[i]?.getD 0).toNat := by
  rw [← Nat.mul_succ]
  exact Nat.mul_le_mul_left _ hlt
 omega
theorem drop_eq {xs ys : List Int} {i : Nat} (hx : i < xs.length) (hy : i < ys.length) (h : xs.drop (i + 1) = ys.drop (i + 1)) (he : xs[i]?.getD 0 = ys[i]?.getD 0) : xs.drop i = ys.drop i := by
 rw [List.drop_eq_getElem_cons hx, List.drop_eq_getElem_cons hy, h]
 rw [List.getElem?_eq_getElem hx, List.getElem?_eq_getElem hy] at he
 simp only [Option.getD_some] at he
 rw [he]
/-! ### The lowest and the highest bit -/
/-- low is how many of P's lowest bits are 0, high how many bits P has; both 0, if P is. -/
def LoHi (P low high : Nat) : Prop := (P = 0 ∧ low = 0 ∧ high = 0) ∨ (0 < high ∧ 2 ^ (high - 1) ≤ P ∧ P < 2 ^ high ∧ ∃ q, P = 2 ^ low * (2 * q + 1))
theorem ends_zero : LoHi 0 0 0 := .inl ⟨rfl, rfl, rfl⟩
theorem ends_high {P low high i x n t : Nat} (h : LoHi P low high) (hP : P < 4294967296 ^ i) (hn1 : 2 ^ (n - 1) ≤ x) (hn2 : x < 2 ^ n) (hn : 0 < n) (ht : ∃ q, x = 2 ^ t * (2 * q + 1)) :
  LoHi (P + 4294967296 ^ i * x) (if high = 0 then 32 * i + t else low) (32 * i + n) := by
 rw [pow32] at hP ⊢
 have hb : 2 ^ (32 * i) * x + 2 ^ (32 * i) ≤ 2 ^ (32 * i + n) := by
  rw [Nat.pow_add, ← Nat.mul_succ]
  exact Nat.mul_le_mul_left _ hn2
 have ha : 2 ^ (32 * i + n - 1) ≤ 2 ^ (32 * i) * x := by
  rw [show 32 * i + n - 1 = 32 * i + (n - 1) by omega, Nat.pow_add]
  exact Nat.mul_le_mul_left _ hn1
 refine .inr ⟨by omega, by omega, by omega, ?_⟩
 rcases h with ⟨rfl, rfl, rfl⟩ | ⟨h1, h2, h3, q, h4⟩
 · obtain ⟨q, hq⟩ := ht
   refine ⟨q, ?_⟩
   rw [if_pos rfl, Nat.pow_add, Nat.mul_assoc, ← hq]
   omega
 · rw [if_neg (by omega)]
   have hlow : low < 32 * i := by
    have h5 : 2 ^ low < 2 ^ (32 * i) := by
     have : 2 ^ low * 1 ≤ 2 ^ low * (2 * q + 1) := Nat.mul_le_mul_left _ (by omega)
     omega
    exact (Nat.pow_lt_pow_iff_right (by decide)).1 h5
   refine ⟨q + 2 ^ (32 * i - low - 1) * x, ?_⟩
   rw [show 32 * i = low + 1 + (32 * i - low - 1) by omega, Nat.pow_add, Nat.pow_succ, h4]
   rw [show low + 1 + (32 * i - low - 1) - low - 1 = 32 * i - low - 1 by omega]
   generalize 2 ^ (32 * i - low - 1) = b
   have e : 2 ^ low * (2 * (q + b * x) + 1) = 2 ^ low * (2 * q + 1) + 2 ^ low * 2 * b * x := by
    rw [show 2 * (q + b * x) + 1 = (2 * q + 1) + 2 * b * x by rw [Nat.mul_add, Nat.mul_assoc]; omega, Nat.mul_add]
    congr 1
    simp only [Nat.mul_assoc]
   omega
/-- What the form of a number is, by its lowest and highest bit. -/
theorem form_law {s : Bool} {P low high k : Nat} (h : LoHi P low high) (h0 : high ≠ 0) :
  min low k < high ∧ P / 2 ^ min low k < 2 ^ (high - min low k) ∧ 2 ^ (high - min low k - 1) ≤ P / 2 ^ min low k ∧
  formed s P k = if high - min low k ≤ 1280 ∧ k - min low k ≤ 1024 then (⟨s, P / 2 ^ min low k, k - min low k⟩, 0) else (Dn.zero, 10) := by
 rcases h with ⟨_, _, h⟩ | ⟨h1, h2, h3, q, h4⟩
 · exact absurd h h0
 · have hp : 0 < 2 ^ min low k := Nat.pow_pos (by decide)
   have hlow : low < high := by
    have h5 : 2 ^ low < 2 ^ high := by
     have : 2 ^ low * 1 ≤ 2 ^ low * (2 * q + 1) := Nat.mul_le_mul_left _ (by omega)
     omega
    exact (Nat.pow_lt_pow_iff_right (by decide)).1 h5
   have hl : min low k < high := by omega
   have eP : P = (2 ^ (low - min low k) * (2 * q + 1)) * 2 ^ min low k := by
    rw [h4, Nat.mul_comm _ (2 ^ min low k), ← Nat.mul_assoc, ← Nat.pow_add, show min low k + (low - min low k) = low by omega]
   have ed : P / 2 ^ min low k = 2 ^ (low - min low k) * (2 * q + 1) := by
    conv => lhs; rw [eP]
    exact Nat.mul_div_cancel _ hp
   have hst := strip_of k (min low k) (2 ^ (low - min low k) * (2 * q + 1)) (by omega) (by
    by_cases hk : min low k = k
    · exact .inl hk
    · right
      rw [show low - min low k = 0 by omega]
      omega)
   rw [← eP] at hst
   have u1 : P / 2 ^ min low k < 2 ^ (high - min low k) := Nat.div_lt_of_lt_mul (by rw [← Nat.pow_add, show min low k + (high - min low k) = high by omega]; exact h3)
   have u2 : 2 ^ (high - min low k - 1) ≤ P / 2 ^ min low k := (Nat.le_div_iff_mul_le hp).2 (by rw [← Nat.pow_add, show high - min low k - 1 + min low k = high - 1 by omega]; exact h2)
   refine ⟨hl, u1, u2, ?_⟩
   have hP0 : P ≠ 0 := by
    have : 0 < 2 ^ (high - 1) := Nat.pow_pos (by decide)
    omega
   unfold formed
   rw [if_neg hP0, hst, ed]
   simp only
   rw [← ed]
   have hc : P / 2 ^ min low k < capD ↔ high - min low k ≤ 1280 := by
    constructor
    · intro h
      rcases Nat.lt_or_ge 1280 (high - min low k) with h6 | h6
      · exfalso
        have h7 : 2 ^ capE ≤ 2 ^ (high - min low k - 1) := Nat.pow_le_pow_right (by decide) (by rw [capE_eq]; omega)
        rw [capD_eq] at h
        omega
      · exact h6
    · intro h
      exact capD_gt u1 h
   simp only [hc]
/-! ### Raw dyads -/
def MayL (xs : List Int) : Prop := xs.length ≤ 40 ∧ Cutd xs
def MayD (s : Bool) (xs : List Int) (e : Int) : Prop := MayL xs ∧ 0 ≤ e ∧ e ≤ 1024 ∧ (xs = [] → e = 0 ∧ s = false) ∧ (xs ≠ [] → 0 < e → xs[0]?.getD 0 % 2 = 1)
theorem num_odd (l : List Int) (hd : Dig 4294967296 l) : ((num 4294967296 l % 2 : Nat) : Int) = l[0]?.getD 0 % 2 := by
 cases l with
 | nil => rfl
 | cons x l =>
  have := hd x (by simp)
  simp only [num, List.getElem?_cons_zero, Option.getD_some]
  omega
theorem capD_of {k : Nat} (h : 32 * k = capE) : 4294967296 ^ k = capD := by rw [pow32, capD_eq, h]
theorem capD_40 : capD = 4294967296 ^ 40 := (capD_of rfl).symm
theorem may_dn {s : Bool} {xs : List Int} {e : Int} (hd : Dig 4294967296 xs) (h : MayD s xs e) : Dn.May ⟨s, num 4294967296 xs, e.toNat⟩ ∧ canon 4294967296 (num 4294967296 xs) = xs := by
 obtain ⟨⟨h1, h2⟩, h3, h4, h5, h6⟩ := h
 have hc := canon_of (by decide) hd h2 rfl
 have hz : num 4294967296 xs = 0 → xs = [] := fun h0 => by rw [h0, canon_zero] at hc; exact hc
 have hne : xs = [] → num 4294967296 xs = 0 := fun h0 => by rw [h0]; rfl
 refine ⟨⟨?_, ?_, fun h0 => ?_, fun h0 => ?_⟩, hc.symm⟩
 · show num 4294967296 xs < capD
   have := num_lt 4294967296 (by decide) xs hd
   rw [capD_40]
   exact Nat.lt_of_lt_of_le this (Nat.pow_le_pow_right (by decide) h1)
 · show e.toNat ≤ 1024
   omega
 · have h7 := h5 (hz h0)
   exact ⟨by show e.toNat = 0; omega, h7.2⟩
 · have h0' : 0 < e := by have : 0 < e.toNat := h0; omega
   have h7 : xs ≠ [] := fun h8 => by have := (h5 h8).1; omega
   have h8 := h6 h7 h0'
   have h9 := num_odd xs hd
   show num 4294967296 xs % 2 = 1
   omega
theorem dn_may {d : Dn} (h : d.May) : MayD d.neg (canon 4294967296 d.m) d.e := by
 obtain ⟨h1, h2, h3, h4⟩ := h
 obtain ⟨c1, c2, c3⟩ := canon_spec 4294967296 d.m (by decide)
 have hl := canon_len (B := 4294967296) (n := d.m) (k := 40) (by decide) (by rw [← capD_40]; exact h1)
 refine ⟨⟨hl, c2⟩, by omega, by omega, fun h0 => ?_, fun _ h0 => ?_⟩
 · have := h3 (canon_nil (by decide) h0)
   exact ⟨by omega, this.2⟩
 · have h5 := num_odd _ c1
   rw [c3] at h5
   have := h4 (by omega)
   omega
end Dp
end Go.Proofs.YtmbppgjhdcmckaaGreatDoor
namespace Go.Proofs.YtmbppgjhdcmckaaGreatDoor
namespace Dp
open Dy
theorem div_bit (X i : Nat) : X / 2 ^ i = 2 * (X / 2 ^ (i + 1)) + X / 2 ^ i % 2 := by
 rw [Nat.pow_succ, ← Nat.div_div_eq_div_mul]
 omega
theorem div_next {H y d : Nat} (hy : 0 < y) (hd : d ≤ 1) :
  (y ≤ 2 * (H % y) + d → (2 * H + d) % y = 2 * (H % y) + d - y ∧ (2 * H + d) / y = 2 * (H / y) + 1) ∧
  (2 * (H % y) + d < y → (2 * H + d) % y = 2 * (H % y) + d ∧ (2 * H + d) / y = 2 * (H / y)) := by
 have h1 := Nat.div_add_mod H y
 have h2 := Nat.mod_lt H hy
 generalize H % y = r at *
 generalize H / y = q at *
 have m : y * (2 * q) = 2 * (y * q) := Nat.mul_left_comm ..
 constructor
 · intro h
   have e : 2 * H + d = (2 * r + d - y) + y * (2 * q + 1) := by
    rw [Nat.mul_add, Nat.mul_one, m]
    omega
   rw [e, Nat.add_mul_mod_self_left, Nat.add_mul_div_left _ _ hy, Nat.mod_eq_of_lt (by omega), Nat.div_eq_of_lt (by omega)]
   exact ⟨rfl, by omega⟩
 · intro h
   have e : 2 * H + d = (2 * r + d) + y * (2 * q) := by
    rw [m]
    omega
   rw [e, Nat.add_mul_mod_self_left, Nat.add_mul_div_left _ _ hy, Nat.mod_eq_of_lt h, Nat.div_eq_of_lt h]
   exact ⟨rfl, by omega⟩
/-- A limb out of a number. -/
theorem limb_at {l : List Int} (hd : Dig 4294967296 l) {j p : Nat} (hp : l[j]?.getD 0 = (p : Int)) : num 4294967296 l / 4294967296 ^ j % 4294967296 = p := by
 have hs := num_split 4294967296 l j
 have hlt := take_lt (B := 4294967296) (by decide) hd j
 have h0 : 0 < 4294967296 ^ j := Nat.pow_pos (by decide)
 rw [hs, Nat.add_mul_div_left _ _ h0, Nat.div_eq_of_lt hlt, Nat.zero_add]
 have hp2 : p < 4294967296 := by
  obtain ⟨d, h1, h2⟩ := dig_get (by decide) hd j
  omega
 cases hdr : l.drop j with
 | nil =>
  have : l[j]?.getD 0 = 0 := by
   rw [List.getElem?_eq_none (by have := congrArg List.length hdr; simp at this; omega)]
   rfl
  have hp0 : p = 0 := by omega
  rw [hp0]
  rfl
 | cons a t =>
  have ha : l[j]? = some a := by
   have := congrArg (fun k => k[0]?) hdr
   simpa using this
  have hap : a.toNat = p := by
   rw [ha] at hp
   simp only [Option.getD_some] at hp
   omega
  simp only [num, hap]
  omega
theorem quo_bit {qs : List Int} {i d p Q : Nat} (hd : Dig 4294967296 qs) (hl : i / 32 < qs.length) (hm : num 4294967296 qs = 2 ^ (i + 1) * Q) (hd1 : d ≤ 1) (hp : qs[i / 32]?.getD 0 = (p : Int)) :
  p % 2 ^ (i % 32 + 1) = 0 ∧ p + d * 2 ^ (i % 32) < 4294967296 ∧ Dig 4294967296 (qs.set (i / 32) ((p + d * 2 ^ (i % 32) : Nat) : Int)) ∧ num 4294967296 (qs.set (i / 32) ((p + d * 2 ^ (i % 32) : Nat) : Int)) = 2 ^ i * (2 * Q + d) := by
 have h1 := limb_at hd hp
 have e0 : 4294967296 ^ (i / 32) = 2 ^ (32 * (i / 32)) := by rw [Nat.pow_mul]
 have hi : i = 32 * (i / 32) + i % 32 := (Nat.div_add_mod i 32).symm
 have hr : i % 32 < 32 := Nat.mod_lt _ (by decide)
 have e1 : 2 ^ (i + 1) = 2 ^ (32 * (i / 32)) * 2 ^ (i % 32 + 1) := by
  rw [← Nat.pow_add]
  congr 1
  omega
 have e2 : 2 ^ i = 2 ^ (32 * (i / 32)) * 2 ^ (i % 32) := by
  rw [← Nat.pow_add]
  congr 1
 have hb : (4294967296 : Nat) = 2 ^ (i % 32 + 1) * 2 ^ (31 - i % 32) := by
  rw [← Nat.pow_add, show i % 32 + 1 + (31 - i % 32) = 32 by omega]
 have hpm : p % 2 ^ (i % 32 + 1) = 0 := by
  rw [← h1, hm, e0, e1, Nat.mul_assoc, Nat.mul_div_cancel_left _ (Nat.pow_pos (by decide))]
  conv => lhs; lhs; rw [hb]
  rw [Nat.mul_mod_mul_left]
  exact Nat.mul_mod_right _ _
 have hp2 : p < 4294967296 := by
  obtain ⟨d', h1, h2⟩ := dig_get (by decide) hd (i / 32)
  omega
 have hpl : p + 2 ^ (i % 32 + 1) ≤ 4294967296 := by
  obtain ⟨c, hc⟩ : ∃ c, p = 2 ^ (i % 32 + 1) * c := ⟨p / 2 ^ (i % 32 + 1), by have := Nat.div_add_mod p (2 ^ (i % 32 + 1)); omega⟩
  have hc2 : c < 2 ^ (31 - i % 32) := by
   refine Nat.lt_of_mul_lt_mul_left (a := 2 ^ (i % 32 + 1)) ?_
   rw [← hc, ← hb]
   exact hp2
  calc p + 2 ^ (i % 32 + 1) = 2 ^ (i % 32 + 1) * (c + 1) := by rw [hc, Nat.mul_succ]
   _ ≤ 2 ^ (i % 32 + 1) * 2 ^ (31 - i % 32) := Nat.mul_le_mul_left _ hc2
   _ = 4294967296 := hb.symm
 have hps : 2 ^ (i % 32 + 1) = 2 * 2 ^ (i % 32) := by rw [Nat.pow_succ]; omega
 have hpos : 0 < 2 ^ (i % 32) := Nat.pow_pos (by decide)
 have hlt : p + d * 2 ^ (i % 32) < 4294967296 := by
  have : d * 2 ^ (i % 32) ≤ 1 * 2 ^ (i % 32) := Nat.mul_le_mul_right _ hd1
  omega
 refine ⟨hpm, hlt, dig_set hd _ _ hlt, ?_⟩
 have hs := set_num 4294967296 qs (i / 32) ((p + d * 2 ^ (i % 32) : Nat) : Int) hl
 rw [hp, Int.toNat_natCast, Int.toNat_natCast, hm, Nat.mul_add] at hs
 have e3 : 2 ^ i * (2 * Q + d) = 2 ^ (i + 1) * Q + 4294967296 ^ (i / 32) * (d * 2 ^ (i % 32)) := by
  rw [Nat.mul_add, ← Nat.mul_assoc, ← Nat.pow_succ, e0, e2, Nat.mul_assoc, Nat.mul_comm d]
 rw [e3]
 omega
/-- A number doubled, and one more bit. -/
theorem shl_step {xs ys : List Int} {i c d x : Nat} (hx : xs[i]?.getD 0 = (x : Int)) (hx2 : x < 4294967296) (hc : c ≤ 1) (h : num 4294967296 (ys.take i) + 4294967296 ^ i * c = 2 * num 4294967296 (xs.take i) + d) (hl : i < ys.length) :
  2 * x % 4294967296 + c < 4294967296 ∧ x / 2147483648 ≤ 1 ∧ num 4294967296 ((ys.set i ((2 * x % 4294967296 + c : Nat) : Int)).take (i + 1)) + 4294967296 ^ (i + 1) * (x / 2147483648) = 2 * num 4294967296 (xs.take (i + 1)) + d := by
 refine ⟨by omega, by omega, ?_⟩
 obtain ⟨v, hv⟩ : ∃ v, 2 * x % 4294967296 + c = v := ⟨_, rfl⟩
 obtain ⟨t, ht⟩ : ∃ t, x / 2147483648 = t := ⟨_, rfl⟩
 rw [hv, ht, set_take _ _ _ _ hl, Int.toNat_natCast, take_num, hx, Int.toNat_natCast, Nat.pow_succ]
 generalize 4294967296 ^ i = b at *
 have e : b * v + b * 4294967296 * t = b * c + 2 * (b * x) := by
  rw [Nat.mul_assoc, ← Nat.mul_add, Nat.mul_left_comm 2 b x, ← Nat.mul_add]
  congr 1
  omega
 rw [Nat.mul_add 2]
 omega
/-- How many bits a number has. -/
def IsLen (N n : Nat) : Prop := (N = 0 ∧ n = 0) ∨ (0 < n ∧ 2 ^ (n - 1) ≤ N ∧ N < 2 ^ n)
theorem IsLen.uniq {N a b : Nat} (h : IsLen N a) (k : IsLen N b) : a = b := by
 rcases h with ⟨h1, h2⟩ | ⟨h1, h2, h3⟩ <;> rcases k with ⟨k1, k2⟩ | ⟨k1, k2, k3⟩
 · omega
 · have := Nat.pow_pos (n := b - 1) (show 0 < 2 by decide)
   omega
 · have := Nat.pow_pos (n := a - 1) (show 0 < 2 by decide)
   omega
 · rcases Nat.lt_trichotomy a b with h | h | h
   · have := Nat.pow_le_pow_right (show 0 < 2 by decide) (show a ≤ b - 1 by omega)
     omega
   · exact h
   · have := Nat.pow_le_pow_right (show 0 < 2 by decide) (show b ≤ a - 1 by omega)
     omega
theorem drop_one (B : Nat) {l : List Int} {k : Nat} (hk : k < l.length) : num B (l.drop k) = (l[k]?.getD 0).toNat + B * num B (l.drop (k + 1)) := by
 rw [List.drop_eq_getElem_cons hk]
 simp [num, List.getElem?_eq_getElem hk]
theorem len_top {l : List Int} {k x n : Nat} (hd : Dig 4294967296 l) (hk : k < l.length) (h0 : num 4294967296 (l.drop (k + 1)) = 0) (hx : l[k]?.getD 0 = (x : Int)) (h1 : 0 < n) (h2 : 2 ^ (n - 1) ≤ x) (h3 : x < 2 ^ n) : IsLen (num 4294967296 l) (32 * k + n) := by
 have hs := num_split 4294967296 l k
 have hl := take_lt (B := 4294967296) (by decide) hd k
 rw [drop_one _ hk, h0, hx, Int.toNat_natCast, Nat.mul_zero, Nat.add_zero] at hs
 have e : (4294967296 : Nat) ^ k = 2 ^ (32 * k) := by rw [Nat.pow_mul]
 rw [e] at hs hl
 refine .inr ⟨by omega, ?_, ?_⟩
 · have e2 : 2 ^ (32 * k + n - 1) = 2 ^ (32 * k) * 2 ^ (n - 1) := by
     rw [← Nat.pow_add]
     congr 1
     omega
   have := Nat.mul_le_mul_left (2 ^ (32 * k)) h2
   omega
 · have e2 : 2 ^ (32 * k + n) = 2 ^ (32 * k) * 2 ^ n := Nat.pow_add ..
   have := Nat.mul_le_mul_left (2 ^ (32 * k)) (show x + 1 ≤ 2 ^ n from h3)
   rw [Nat.mul_succ] at this
   omega
theorem len_none {l : List Int} {k x : Nat} (hk : k < l.length) (h0 : num 4294967296 (l.drop (k + 1)) = 0) (hx : l[k]?.getD 0 = (x : Int)) (hx0 : x = 0) : num 4294967296 (l.drop k) = 0 := by
 rw [drop_one _ hk, h0, hx, hx0]
 rfl
/-- One more. -/
theorem one_step {ws : List Int} {i x : Nat} (hl : i < ws.length) (hx : ws[i]?.getD 0 = (x : Int)) (v : Nat) (hv : num 4294967296 ws + 4294967296 ^ i = v) :
  (x + 1 < 4294967296 → num 4294967296 (ws.set i ((x + 1 : Nat) : Int)) = v) ∧ (x + 1 = 4294967296 → num 4294967296 (ws.set i (0 : Int)) + 4294967296 ^ (i + 1) = v) := by
 constructor
 · intro h
   have hs := set_num 4294967296 ws i ((x + 1 : Nat) : Int) hl
   rw [hx, Int.toNat_natCast, Int.toNat_natCast, Nat.mul_succ] at hs
   omega
 · intro h
   have hs := set_num 4294967296 ws i (0 : Int) hl
   rw [hx, Int.toNat_natCast] at hs
   have e : 4294967296 ^ (i + 1) = 4294967296 ^ i * x + 4294967296 ^ i := by rw [Nat.pow_succ, ← h, Nat.mul_succ]
   simp only [Int.toNat_zero, Nat.mul_zero, Nat.add_zero] at hs
   omega
/-- The quotient of two numbers in parts of 2^-k, rounded to 0, and what is left. -/
def quoN (a b : Dn) (k : Nat) : Nat × Nat := (a.m * 2 ^ (b.e + k) / (b.m * 2 ^ a.e), a.m * 2 ^ (b.e + k) % (b.m * 2 ^ a.e))
/-- The quotient, rounded away from 0, or to it. -/
def toD (a b : Dn) (k : Nat) (away : Bool) : Dn × Int := formed a.neg ((quoN a b k).1 + if (quoN a b k).2 ≠ 0 ∧ away = true then 1 else 0) k
def nearD (a b : Dn) : Dn × Int :=
 formed a.neg ((quoN a b 1).1 / 2 + if (quoN a b 1).1 % 2 = 1 ∧ (a.neg = false ∨ (quoN a b 1).2 ≠ 0) then 1 else 0) 0
/-- Both shifted alike. -/
theorem quo_shift (X y t : Nat) : X * 2 ^ t / (y * 2 ^ t) = X / y ∧ (X * 2 ^ t % (y * 2 ^ t) = 0 ↔ X % y = 0) := by
 refine ⟨Nat.mul_div_mul_right _ _ (Nat.pow_pos (by decide)), ?_⟩
 rw [Nat.mul_mod_mul_right]
 have : 0 < 2 ^ t := Nat.pow_pos (by decide)
 constructor
 · intro h
   exact (Nat.mul_eq_zero.1 h).resolve_right (by omega)
 · intro h
   rw [h, Nat.zero_mul]
end Dp
end Go.Proofs.YtmbppgjhdcmckaaGreatDoor