/- Lists of masses that a call owns: appended to, stored in; no function in sight (printed by a program of mine). -/
/- headcountref02.Twin, headcountref06.Twin, of masses as great as may be: walks (printed by a program of mine). -/
/- Lists of copies: no program in sight but in the contracts joined (printed by a program of mine). -/
/- headcountref06.Sum: walks (printed by a program of mine). -/
import Derived.Test.YtlbkepiflhchdaaDoorBm28
import Derived.Test.YtlbkepiflhchdaaDoorBm19
import Derived.Test.YtlbkepiflhchdaaDoorBm23
import Derived.Test.YtlbkepiflhchdaaDoorBm20
import Derived.Test.YtlbkepiflhchdaaDoorBm24
namespace Go.Proofs.YtlbkepiflhchdaaDoor
open Go.RowKit
namespace Ma
open Dp Dy
/-- A mass's cells. -/
def cells12 (m : Mv) : List Value := [.bool m.S.s, .slice m.S.A m.S.n m.S.c, .int .i64 m.S.e, .bool m.W.s, .slice m.W.A m.W.n m.W.c, .int .i64 m.W.e, .bool m.C.s, .slice m.C.A m.C.n m.C.c, .int .i64 m.C.e, .bool m.A.s, .slice m.A.A m.A.n m.A.c, .int .i64 m.A.e]
/-- Those of masses. -/
def flatM : List Mv → List Value
  | [] => []
  | m :: l => cells12 m ++ flatM l
theorem flatM_len : ∀ l, (flatM l).length = l.length * 12
  | [] => rfl
  | m :: l => by simp [flatM, cells12, flatM_len l]; omega
theorem flatM_append : ∀ l k, flatM (l ++ k) = flatM l ++ flatM k
  | [], _ => rfl
  | m :: l, k => by simp [flatM, flatM_append l k]
theorem flatM_one (m : Mv) : flatM [m] = cells12 m := by simp [flatM]
theorem cells12_one (m : Mv) : ∀ u ∈ cells12 m, u.oneCell' = true := by
  intro u hu
  simp only [cells12, List.mem_cons, List.not_mem_nil, or_false] at hu
  rcases hu with rfl | rfl | rfl | rfl | rfl | rfl | rfl | rfl | rfl | rfl | rfl | rfl <;> rfl
theorem flatM_get : ∀ (l : List Mv) (j k : Nat) (h : j < l.length), k < 12 → (flatM l)[j * 12 + k]? = (cells12 l[j])[k]?
  | [], j, k, h, _ => absurd h (Nat.not_lt_zero _)
  | m :: l, 0, k, _, hk => by
    simp only [flatM, Nat.zero_mul, Nat.zero_add, List.getElem_cons_zero]
    rw [List.getElem?_append_left (by simp [cells12]; omega)]
  | m :: l, j + 1, k, h, hk => by
    have e : (j + 1) * 12 + k = (cells12 m).length + (j * 12 + k) := by simp [cells12]; omega
    simp only [flatM, List.getElem_cons_succ]
    rw [e, List.getElem?_append_right (by omega), Nat.add_sub_cancel_left]
    exact flatM_get l j k (by simpa using h) hk
theorem mcells_of {w : World} {b o : Nat} {m : Mv} (h : ∀ k, k < 12 → w.cell? ⟨b, o + k, none⟩ = (cells12 m)[k]?) : MCells w b o m :=
  ⟨h 0 (by decide), h 1 (by decide), h 2 (by decide), h 3 (by decide), h 4 (by decide), h 5 (by decide), h 6 (by decide), h 7 (by decide), h 8 (by decide), h 9 (by decide), h 10 (by decide), h 11 (by decide)⟩
/-- A dyad's limbs lie in another block. -/
def Dv.off (d : Dv) (g : Option Nat) : Prop := ∀ a, d.A = some a → 0 < d.n → g ≠ some a.block
def Mv.off (m : Mv) (g : Option Nat) : Prop := ∀ x, x < 4 → (m.get x).off g
theorem ints_grown {w w' : World} {row : Option Nat} {k : IntKind} {A : Option Addr} {n : Nat} {xs : List Int} (h : Ints w 0 w.heap.size k A n xs) (hg : w.grownBy w' row) (hr : ∀ a, A = some a → 0 < n → row ≠ some a.block) : Ints w' 0 w'.heap.size k A n xs := by
  refine ⟨h.len, h.wf, h.big, fun h0 => ?_⟩
  obtain ⟨b, off, e, h1, h2, hc⟩ := h.row h0
  have hb := hg.block b h2 (fun k => hr _ e h0 k.symm)
  exact ⟨b, off, e, h1, Nat.lt_of_lt_of_le h2 hg.size, fun j hj => ⟨(World.cell?_of_block hb).trans (hc j hj).1, (World.frozen?_of_block hb).trans (hc j hj).2⟩⟩
theorem rows_grown {w w' : World} {row : Option Nat} {m : Mv} (h : MRows w 0 w.heap.size m) (hg : w.grownBy w' row) (hr : m.off row) : MRows w' 0 w'.heap.size m :=
  ⟨ints_grown h.S hg (hr 0 (by decide)), ints_grown h.W hg (hr 1 (by decide)), ints_grown h.C hg (hr 2 (by decide)), ints_grown h.A hg (hr 3 (by decide))⟩
theorem off_none (m : Mv) : m.off none := fun _ _ _ _ _ h => by cases h
/-- Rows below a block, or behind it, are off it. -/
theorem rows_off {w : World} {lo hi : Nat} {m : Mv} (h : MRows w lo hi m) {g : Option Nat} (hg : ∀ k, g = some k → k < lo ∨ hi ≤ k) : m.off g := fun x _ a e h0 hk => by
  obtain ⟨b, off, e', h1, h2, _⟩ := (h.get x).row h0
  rw [e'] at e
  injection e with e
  subst e
  have := hg _ hk
  simp only at this
  omega
theorem grown_of_below {w w' : World} (hb : Below w.heap.size w w') (row : Option Nat) : w.grownBy w' row := ⟨hb.os, hb.tape, hb.output, hb.size, fun k hk _ => hb.block k hk⟩
/-- A list of masses that the call owns. -/
structure OwnM (w : World) (base : Nat) (v : Value) (n : Nat) (ms : List Mv) : Prop where
  own : w.ownsRow base 39 12 v n (flatM ms)
  len : ms.length = n
  rows : ∀ m ∈ ms, MRows w 0 w.heap.size m
  off : ∀ m ∈ ms, m.off v.ownBlock
theorem OwnM.nil_ (w : World) (base : Nat) : OwnM w base (.slice none 0 0) 0 [] := ⟨World.ownsRow_nil .., rfl, fun _ h => absurd h (by simp), fun _ h => absurd h (by simp)⟩
theorem OwnM.on {w w' : World} {base : Nat} {v : Value} {n : Nat} {ms : List Mv} (h : OwnM w base v n ms) (hb : Below w.heap.size w w') : OwnM w' base v n ms :=
  ⟨h.own.kept (grown_of_below hb none) (by cases v.ownBlock <;> simp), h.len, fun m hm => ((h.rows m hm).below hb (Nat.le_refl _)).more (Nat.le_refl _) hb.size, h.off⟩
theorem OwnM.push {w w' : World} {base : Nat} {v v' : Value} {n : Nat} {ms : List Mv} (h : OwnM w base v n ms) {d : Mv} (hd : MRows w 0 w.heap.size d) (ho : d.off v.ownBlock)
    (hown : w'.ownsRow base 39 12 v' (n + 1) (flatM ms ++ cells12 d)) (hg : w.grownBy w' v.ownBlock) (hob : v'.ownBlock = v.ownBlock ∨ v'.ownBlock = some w.heap.size) : OwnM w' base v' (n + 1) (ms ++ [d]) := by
  refine ⟨by rw [flatM_append, flatM_one]; exact hown, by simp [h.len], fun m hm => ?_, fun m hm => ?_⟩
  · rcases List.mem_append.1 hm with hm | hm
    · exact rows_grown (h.rows m hm) hg (h.off m hm)
    · obtain rfl : m = d := by simpa using hm
      exact rows_grown hd hg ho
  · have hrow : MRows w 0 w.heap.size m ∧ m.off v.ownBlock := by
      rcases List.mem_append.1 hm with hm | hm
      · exact ⟨h.rows m hm, h.off m hm⟩
      · obtain rfl : m = d := by simpa using hm
        exact ⟨hd, ho⟩
    rcases hob with e | e
    · rw [e]
      exact hrow.2
    · rw [e]
      exact rows_off hrow.1 fun k hk => by
        injection hk with hk
        omega
theorem OwnM.shape {w : World} {base : Nat} {v : Value} {n : Nat} {ms : List Mv} (h : OwnM w base v n ms) : ∃ A c, v = .slice A n c ∧ n ≤ c ∧ c ≤ maxLen := own_shape h.own
/-- It reads as a list. -/
theorem OwnM.lms {w : World} {base c : Nat} {A : Option Addr} {n : Nat} {ms : List Mv} (h : OwnM w base (.slice A n c) n ms) : LMs w 0 w.heap.size A n ms := by
  have hcap : n ≤ 9223372036854775807 := by
    obtain ⟨A', c', e, h1, h2⟩ := own_shape h.own
    unfold maxLen at h2
    omega
  refine ⟨h.len, hcap, fun h0 => ?_, fun j hj => h.rows _ (List.getElem_mem hj)⟩
  rcases h.own.2 with ⟨e, e0⟩ | ⟨g, cap, cur, e, hb, hg, _⟩
  · omega
  · have hown := h.own
    rw [e] at hown
    injection e with e1 e2 e3
    refine ⟨g, 0, e1, Nat.zero_le _, (Array.getElem?_eq_some_iff.1 hg).1, fun j hj => ?_⟩
    rw [Nat.zero_add]
    refine mcells_of fun k hk => ?_
    have hlt : j * 12 + k < n * 12 := by have := h.len; omega
    rw [hown.cellAt (j * 12 + k) hlt]
    exact flatM_get ms j k hj hk
theorem LMs.rng {w w' : World} {lo hi : Nat} {A : Option Addr} {n : Nat} {ms : List Mv} (h : LMs w lo hi A n ms) (hk : ∀ b, lo ≤ b → b < hi → w'.heap[b]? = w.heap[b]?) : LMs w' lo hi A n ms :=
  ⟨h.len, h.big, fun h0 => by
    obtain ⟨b, off, e, h1, h2, hc⟩ := h.row h0
    exact ⟨b, off, e, h1, h2, fun j hj => (hc j hj).blk (hk b h1 h2)⟩, fun j hj => rows_rng (h.rows j hj) hk⟩
theorem LMs.on {w w' : World} {A : Option Addr} {n : Nat} {ms : List Mv} (h : LMs w 0 w.heap.size A n ms) (hb : Below w.heap.size w w') : LMs w' 0 w'.heap.size A n ms := (h.below hb (Nat.le_refl _)).more (Nat.le_refl _) hb.size
/-- One mass in a block of its own, to be appended. -/
theorem raw_oneM (w : World) (m : Mv) {W : World} (hW : w.alloc (.cells #[.bool m.S.s, .slice m.S.A m.S.n m.S.c, .int .i64 m.S.e, .bool m.W.s, .slice m.W.A m.W.n m.W.c, .int .i64 m.W.e, .bool m.C.s, .slice m.C.A m.C.n m.C.c, .int .i64 m.C.e, .bool m.A.s, .slice m.A.A m.A.n m.A.c, .int .i64 m.A.e] 39) = W) : Raw W 0 (w.heap.size + 1) (some ⟨w.heap.size, 0, none⟩) (1 * 12) (cells12 m) := by
  subst hW
  have hX := heap_alloc_last w (.cells #[.bool m.S.s, .slice m.S.A m.S.n m.S.c, .int .i64 m.S.e, .bool m.W.s, .slice m.W.A m.W.n m.W.c, .int .i64 m.W.e, .bool m.C.s, .slice m.C.A m.C.n m.C.c, .int .i64 m.C.e, .bool m.A.s, .slice m.A.A m.A.n m.A.c, .int .i64 m.A.e] 39)
  refine ⟨rfl, fun _ => ⟨w.heap.size, 0, rfl, Nat.zero_le _, by omega, fun j hj => ⟨?_, frozen_of_row _ _ _ _ _ hX⟩⟩⟩
  rw [cell_of_row _ _ _ _ _ _ hX]
  simp [cells12]
end Ma
end Go.Proofs.YtlbkepiflhchdaaDoor

namespace Go.Proofs.YtlbkepiflhchdaaDoor
open Go.RowKit
namespace Pa
set_option maxHeartbeats 1600000 in
/-- headcountref02.Twin. -/
theorem rTwin_big (w : World) (s : Bool) (A : Option Addr) (n c : Nat) (xs : List Int) (e : Int) (hX : Ints w 0 w.heap.size .u32 A n xs) (hn : n ≤ 35184372088832) :
    Calls Tryd.prog 19 #[.agg #[.bool s, .slice A n c, .int .i64 e]] w fun r w' => ∃ A' c', r = .returned (.agg #[.bool s, .slice A' n c', .int .i64 e]) ∧ n ≤ c' ∧ Below w.heap.size w w' ∧ w.heap.size < w'.heap.size ∧ Ints w' (w.heap.size + 2) w'.heap.size .u32 A' n xs := by
  have hxw := Lib.hid hX.wf
  have hbig := hX.big
  have hX2 := (hX.alloc (Nat.le_refl _) (.cells #[.bool s, .slice A n c, .int .i64 e] 24)).alloc (by simp) (.cells #[.bool false, .slice none 0 0, .int .i64 0] 24)
  obtain ⟨i0, hi0, hz0, hz1, hz2⟩ := info_parts infoU32
  go_enter Tryd.func19, Tryd.ntmps19
  go_wp2_with (first
    | (at_builtin; refine wpList_append_raw _ rfl (.tmp 3) (.tmp 5) 22 rfl (w.heap.size + 1 + 1) 52 i0 _ 1 4 Tryd.underlying22 hi0 hz0 hz1 hz2 rfl (by decide) _ _ _ rfl (own_emptyg _ _ _ _ 1 (by simp) (by simp)) _ _ _ n _ _ rfl (hX2.alloc (by simp; omega) _).raw ?c1 ?c2 ?c3 ?c4 ?_))
  case c1 => exact u32_one _
  case c2 => unfold maxLen; omega
  case c3 => omega
  case c4 => simp
  intro A2 c2 w1 hown1 hgrow1 _
  have hb1 : Below ((w.alloc (.cells #[.bool s, .slice A n c, .int .i64 e] 24)).alloc (.cells #[.bool false, .slice none 0 0, .int .i64 0] 24)).heap.size ((w.alloc (.cells #[.bool s, .slice A n c, .int .i64 e] 24)).alloc (.cells #[.bool false, .slice none 0 0, .int .i64 0] 24)) w1 := ((Below.refl _ _).alloc (Nat.le_refl _) _).grown hgrow1 (by simp) (fun q hq => by simp [Value.ownBlock] at hq; simp; omega)
  have hc2 := own_cap hown1
  clear hgrow1
  (try simp at hown1)
  have hD := Ints.of_own hown1 hxw.out hbig
  have hs1 := hb1.size
  simp at hs1
  have G1 := heapKeep hb1 (by simp; omega) (heapAll (.cells #[.bool false, .slice none 0 0, .int .i64 0] 24) (heap_newP w (.cells #[.bool s, .slice A n c, .int .i64 e] 24) _ rfl))
  have G2 := heapKeep hb1 (by simp) (heap_newP (w.alloc (.cells #[.bool s, .slice A n c, .int .i64 e] 24)) (.cells #[.bool false, .slice none 0 0, .int .i64 0] 24) (w.heap.size + 1) (by simp))
  obtain ⟨⟨k1, k2, k3⟩, k4, k5, k6⟩ := boxP3 G1
  obtain ⟨⟨p1, p2, p3⟩, p4, p5, p6⟩ := boxP3 G2
  have hbb := (((Below.refl w.heap.size w).alloc (Nat.le_refl _) (.cells #[.bool s, .slice A n c, .int .i64 e] 24)).alloc (by simp) (.cells #[.bool false, .slice none 0 0, .int .i64 0] 24)).trans (hb1.mono (by simp; omega))
  clear hb1 hown1 G1 G2
  go_wp2
  refine bodyPost_ret (v := .agg #[.bool s, .slice A2 n c2, .int .i64 e]) (by simp [results, Tryd.results19, go_sem, p1, p2, p3]) rfl ⟨A2, c2, rfl, hc2, ?_, ?_, ?_⟩
  · repeat (refine Below.setCell ?_ (by simp; try omega) _)
    exact hbb
  · simp [World.setCell]
    omega
  · refine Ints.more (lo := w.heap.size + 2) (hi := w1.heap.size) ?_ (Nat.le_refl _) (by simp [World.setCell])
    repeat (refine ints_far ?_ (by simp; try omega) _)
    exact hD
end Pa
namespace Ma
open Dp Dy
set_option maxHeartbeats 6400000 in
set_option maxRecDepth 100000 in
theorem RTwinM_big (w : World) (m : Mv) (hR : MRows w 0 w.heap.size m) (hn : ∀ x, x < 4 → (m.get x).n ≤ 35184372088832) :
    Calls Tryd.prog 29 #[.agg #[.bool m.S.s, .slice m.S.A m.S.n m.S.c, .int .i64 m.S.e, .bool m.W.s, .slice m.W.A m.W.n m.W.c, .int .i64 m.W.e, .bool m.C.s, .slice m.C.A m.C.n m.C.c, .int .i64 m.C.e, .bool m.A.s, .slice m.A.A m.A.n m.A.c, .int .i64 m.A.e]] w fun e w' => ∃ m' : Mv, e = .returned (.agg #[.bool m'.S.s, .slice m'.S.A m'.S.n m'.S.c, .int .i64 m'.S.e, .bool m'.W.s, .slice m'.W.A m'.W.n m'.W.c, .int .i64 m'.W.e, .bool m'.C.s, .slice m'.C.A m'.C.n m'.C.c, .int .i64 m'.C.e, .bool m'.A.s, .slice m'.A.A m'.A.n m'.A.c, .int .i64 m'.A.e]) ∧ (∀ x, x < 4 → TwinV (m.get x) (m'.get x)) ∧ Below w.heap.size w w' ∧ MRows w' w.heap.size w'.heap.size m' := by
  generalize hw1 : (w.alloc (.cells #[.bool m.S.s, .slice m.S.A m.S.n m.S.c, .int .i64 m.S.e, .bool m.W.s, .slice m.W.A m.W.n m.W.c, .int .i64 m.W.e, .bool m.C.s, .slice m.C.A m.C.n m.C.c, .int .i64 m.C.e, .bool m.A.s, .slice m.A.A m.A.n m.A.c, .int .i64 m.A.e] 39)).alloc (.cells #[.bool false, .slice none 0 0, .int .i64 0, .bool false, .slice none 0 0, .int .i64 0, .bool false, .slice none 0 0, .int .i64 0, .bool false, .slice none 0 0, .int .i64 0] 39) = w1
  obtain ⟨hM, hZ, hBL, lo1, hi1⟩ := boxes2 w _ _ hw1
  replace hM : MBox w1 w.heap.size m := hM
  replace hZ : MBox w1 (w.heap.size + 1) ZM := hZ
  replace hBL : Below w.heap.size w w1 := hBL
  have Rm : MRows w1 0 w1.heap.size m := hR.on hBL
  have n0 : m.S.n ≤ 35184372088832 := hn 0 (by decide)
  have n1 : m.W.n ≤ 35184372088832 := hn 1 (by decide)
  have n2 : m.C.n ≤ 35184372088832 := hn 2 (by decide)
  have n3 : m.A.n ≤ 35184372088832 := hn 3 (by decide)
  clear hn
  go_enter Tryd.func29, Tryd.ntmps29
  go_wp2_with fail
  try clear hw1
  refine region_E (Keeps w1) [13] (m := 14) (L := #[false, false, false, false, false, false, false, false, false, false, false, false, false, false]) (by kernel_rfl) (by rfl) (by rfl) ?_
  have kp_ : Keeps w1 w1.drew := fun _ _ => rfl
  have hB : Below w1.heap.size w1 w1.drew := (Below.refl _ _).drew
  replace Rm : MRows w1.drew 0 w1.drew.heap.size _ := MRows.on Rm hB
  replace hBL := hBL.trans (hB.mono (by omega))
  have lw_1 : w1.heap.size ≤ w1.drew.heap.size := hB.size
  clear hB
  generalize w1.drew = w_1 at *
  refine pureE (i := 0) (L := #[true, false, false, false, false, false, false, false, false, false, false, false, false, false]) (v := ?_) rfl (by rfl) (by kernel_rfl) (by kernel_rfl) (by kernel_rfl) (fun _ _ _ h => h) (by rfl) ?hy1 ?rest1
  case hy1 => intro w; go_simp; (try with_reducible rfl)
  try simp only [Act.put, List.setIfInBounds_toArray, List.set_cons_zero, List.set_cons_succ]
  refine pureE (i := 3) (L := #[true, false, false, true, false, false, false, false, false, false, false, false, false, false]) (v := ?_) rfl (by rfl) (by kernel_rfl) (by kernel_rfl) (by kernel_rfl) (fun _ _ _ h => h) (by rfl) ?hy2 ?rest2
  case hy2 => intro w; go_simp; (try with_reducible rfl)
  try simp only [Act.put, List.setIfInBounds_toArray, List.set_cons_zero, List.set_cons_succ]
  refine pureE (i := 6) (L := #[true, false, false, true, false, false, true, false, false, false, false, false, false, false]) (v := ?_) rfl (by rfl) (by kernel_rfl) (by kernel_rfl) (by kernel_rfl) (fun _ _ _ h => h) (by rfl) ?hy3 ?rest3
  case hy3 => intro w; go_simp; (try with_reducible rfl)
  try simp only [Act.put, List.setIfInBounds_toArray, List.set_cons_zero, List.set_cons_succ]
  refine pureE (i := 9) (L := #[true, false, false, true, false, false, true, false, false, true, false, false, false, false]) (v := ?_) rfl (by rfl) (by kernel_rfl) (by kernel_rfl) (by kernel_rfl) (fun _ _ _ h => h) (by rfl) ?hy4 ?rest4
  case hy4 => intro w; go_simp; (try with_reducible rfl)
  try simp only [Act.put, List.setIfInBounds_toArray, List.set_cons_zero, List.set_cons_succ]
  refine readE (i := 1) (L := #[true, true, false, true, false, false, true, false, false, true, false, false, false, false]) (v := .agg #[.bool m.S.s, .slice m.S.A m.S.n m.S.c, .int .i64 m.S.e]) rfl (by rfl) (by kernel_rfl) (by kernel_rfl) (by kernel_rfl) (fun _ _ _ h => h) (by assumption) (by rfl) ?yr_2 ?zr_2
  case yr_2 =>
    intro w' h1
    obtain ⟨⟨k0, k1, k2, k3, k4, k5, k6, k7, k8, k9, k10, k11⟩, kf⟩ := MBox.cells ((h1 _ (by omega)).trans hM)
    go_simp
  try simp only [Act.put, List.setIfInBounds_toArray, List.set_cons_zero, List.set_cons_succ]
  refine readE (i := 4) (L := #[true, true, false, true, true, false, true, false, false, true, false, false, false, false]) (v := .agg #[.bool m.W.s, .slice m.W.A m.W.n m.W.c, .int .i64 m.W.e]) rfl (by rfl) (by kernel_rfl) (by kernel_rfl) (by kernel_rfl) (fun _ _ _ h => h) (by assumption) (by rfl) ?yr_3 ?zr_3
  case yr_3 =>
    intro w' h1
    obtain ⟨⟨k0, k1, k2, k3, k4, k5, k6, k7, k8, k9, k10, k11⟩, kf⟩ := MBox.cells ((h1 _ (by omega)).trans hM)
    go_simp
  try simp only [Act.put, List.setIfInBounds_toArray, List.set_cons_zero, List.set_cons_succ]
  refine readE (i := 7) (L := #[true, true, false, true, true, false, true, true, false, true, false, false, false, false]) (v := .agg #[.bool m.C.s, .slice m.C.A m.C.n m.C.c, .int .i64 m.C.e]) rfl (by rfl) (by kernel_rfl) (by kernel_rfl) (by kernel_rfl) (fun _ _ _ h => h) (by assumption) (by rfl) ?yr_4 ?zr_4
  case yr_4 =>
    intro w' h1
    obtain ⟨⟨k0, k1, k2, k3, k4, k5, k6, k7, k8, k9, k10, k11⟩, kf⟩ := MBox.cells ((h1 _ (by omega)).trans hM)
    go_simp
  try simp only [Act.put, List.setIfInBounds_toArray, List.set_cons_zero, List.set_cons_succ]
  refine readE (i := 10) (L := #[true, true, false, true, true, false, true, true, false, true, true, false, false, false]) (v := .agg #[.bool m.A.s, .slice m.A.A m.A.n m.A.c, .int .i64 m.A.e]) rfl (by rfl) (by kernel_rfl) (by kernel_rfl) (by kernel_rfl) (fun _ _ _ h => h) (by assumption) (by rfl) ?yr_5 ?zr_5
  case yr_5 =>
    intro w' h1
    obtain ⟨⟨k0, k1, k2, k3, k4, k5, k6, k7, k8, k9, k10, k11⟩, kf⟩ := MBox.cells ((h1 _ (by omega)).trans hM)
    go_simp
  try simp only [Act.put, List.setIfInBounds_toArray, List.set_cons_zero, List.set_cons_succ]
  refine stepK (i := 2) (L := #[true, true, true, true, true, false, true, true, false, true, true, false, false, false]) rfl (by rfl) (by kernel_rfl) (by rfl) (fun K hK => ?_)
  go_simp
  go_at_call 19
  refine (Pa.rTwin_big w_1 m.S.s m.S.A m.S.n m.S.c m.S.xs m.S.e (MRows.get Rm 0) n0).mono ?_
  rintro e' w_6 ⟨A0, c0, rfl, hc0, hB, hlt0, hI⟩
  replace kp_ := Keeps.on kp_ (by omega) hB
  have lw_6 : w_1.heap.size ≤ w_6.heap.size := hB.size
  replace Rm := MRows.on Rm hB
  replace hBL := hBL.trans (hB.mono (by omega))
  have I0 : Ints _ (w.heap.size + 2) _ .u32 A0 m.S.n m.S.xs := Ints.more hI (by omega) (Nat.le_refl _)
  clear hI hlt0
  clear hB
  refine hK _ _ ⟨fun _ _ => kp_, ?_⟩
  clear hK K
  try simp only [Act.put, List.setIfInBounds_toArray, List.set_cons_zero, List.set_cons_succ]
  refine stepK (i := 5) (L := #[true, true, true, true, true, true, true, true, false, true, true, false, false, false]) rfl (by rfl) (by kernel_rfl) (by rfl) (fun K hK => ?_)
  go_simp
  go_at_call 19
  refine (Pa.rTwin_big w_6 m.W.s m.W.A m.W.n m.W.c m.W.xs m.W.e (MRows.get Rm 1) n1).mono ?_
  rintro e' w_7 ⟨A1, c1, rfl, hc1, hB, hlt1, hI⟩
  replace kp_ := Keeps.on kp_ (by omega) hB
  have lw_7 : w_6.heap.size ≤ w_7.heap.size := hB.size
  replace Rm := MRows.on Rm hB
  replace I0 := (Ints.below I0 hB (Nat.le_refl _)).more (Nat.le_refl _) hB.size
  replace hBL := hBL.trans (hB.mono (by omega))
  have I1 : Ints _ (w.heap.size + 2) _ .u32 A1 m.W.n m.W.xs := Ints.more hI (by omega) (Nat.le_refl _)
  clear hI hlt1
  clear hB
  refine hK _ _ ⟨fun _ _ => kp_, ?_⟩
  clear hK K
  try simp only [Act.put, List.setIfInBounds_toArray, List.set_cons_zero, List.set_cons_succ]
  refine stepK (i := 8) (L := #[true, true, true, true, true, true, true, true, true, true, true, false, false, false]) rfl (by rfl) (by kernel_rfl) (by rfl) (fun K hK => ?_)
  go_simp
  go_at_call 19
  refine (Pa.rTwin_big w_7 m.C.s m.C.A m.C.n m.C.c m.C.xs m.C.e (MRows.get Rm 2) n2).mono ?_
  rintro e' w_8 ⟨A2, c2, rfl, hc2, hB, hlt2, hI⟩
  replace kp_ := Keeps.on kp_ (by omega) hB
  have lw_8 : w_7.heap.size ≤ w_8.heap.size := hB.size
  replace Rm := MRows.on Rm hB
  replace I0 := (Ints.below I0 hB (Nat.le_refl _)).more (Nat.le_refl _) hB.size
  replace I1 := (Ints.below I1 hB (Nat.le_refl _)).more (Nat.le_refl _) hB.size
  replace hBL := hBL.trans (hB.mono (by omega))
  have I2 : Ints _ (w.heap.size + 2) _ .u32 A2 m.C.n m.C.xs := Ints.more hI (by omega) (Nat.le_refl _)
  clear hI hlt2
  clear hB
  refine hK _ _ ⟨fun _ _ => kp_, ?_⟩
  clear hK K
  try simp only [Act.put, List.setIfInBounds_toArray, List.set_cons_zero, List.set_cons_succ]
  refine stepK (i := 11) (L := #[true, true, true, true, true, true, true, true, true, true, true, true, false, false]) rfl (by rfl) (by kernel_rfl) (by rfl) (fun K hK => ?_)
  go_simp
  go_at_call 19
  refine (Pa.rTwin_big w_8 m.A.s m.A.A m.A.n m.A.c m.A.xs m.A.e (MRows.get Rm 3) n3).mono ?_
  rintro e' w_9 ⟨A3, c3, rfl, hc3, hB, hlt3, hI⟩
  replace kp_ := Keeps.on kp_ (by omega) hB
  have lw_9 : w_8.heap.size ≤ w_9.heap.size := hB.size
  replace Rm := MRows.on Rm hB
  replace I0 := (Ints.below I0 hB (Nat.le_refl _)).more (Nat.le_refl _) hB.size
  replace I1 := (Ints.below I1 hB (Nat.le_refl _)).more (Nat.le_refl _) hB.size
  replace I2 := (Ints.below I2 hB (Nat.le_refl _)).more (Nat.le_refl _) hB.size
  replace hBL := hBL.trans (hB.mono (by omega))
  have I3 : Ints _ (w.heap.size + 2) _ .u32 A3 m.A.n m.A.xs := Ints.more hI (by omega) (Nat.le_refl _)
  clear hI hlt3
  clear hB
  refine hK _ _ ⟨fun _ _ => kp_, ?_⟩
  clear hK K
  try simp only [Act.put, List.setIfInBounds_toArray, List.set_cons_zero, List.set_cons_succ]
  refine pureE (i := 12) (L := #[true, true, true, true, true, true, true, true, true, true, true, true, true, false]) (v := ?_) rfl (by rfl) (by kernel_rfl) (by kernel_rfl) (by kernel_rfl) (fun _ _ _ h => h) (by rfl) ?hy13 ?rest13
  case hy13 => intro w; go_simp; (try with_reducible rfl)
  try simp only [Act.put, List.setIfInBounds_toArray, List.set_cons_zero, List.set_cons_succ]
  have hZ2 : MBox w_9 (w.heap.size + 1) ZM := (kp_ _ (by omega)).trans hZ
  obtain ⟨⟨z0, z1, z2, z3, z4, z5, z6, z7, z8, z9, z10, z11⟩, zf⟩ := MBox.cells hZ2
  refine stepK (i := 13) (L := #[true, true, true, true, true, true, true, true, true, true, true, true, true, true]) rfl (by rfl) (by kernel_rfl) (by rfl) (fun K hK => ?_)
  go_simp
  refine hK _ _ ⟨fun h => absurd h (by decide), ?_⟩
  clear hK K z0 z1 z2 z3 z4 z5 z6 z7 z8 z9 z10 z11 zf
  try simp only [Act.put, List.setIfInBounds_toArray, List.set_cons_zero, List.set_cons_succ]
  obtain ⟨M, hMe⟩ : ∃ M : Mv, M = ⟨⟨m.S.s, A0, m.S.n, c0, m.S.e, m.S.xs⟩, ⟨m.W.s, A1, m.W.n, c1, m.W.e, m.W.xs⟩, ⟨m.C.s, A2, m.C.n, c2, m.C.e, m.C.xs⟩, ⟨m.A.s, A3, m.A.n, c3, m.A.e, m.A.xs⟩⟩ := ⟨_, rfl⟩
  have hX : MBox ((((((((((((w_9.setCell ⟨w.heap.size + 1, 0, none⟩ (.bool m.S.s)).setCell ⟨w.heap.size + 1, 1, none⟩ (.slice A0 m.S.n c0)).setCell ⟨w.heap.size + 1, 2, none⟩ (.int .i64 m.S.e)).setCell ⟨w.heap.size + 1, 3, none⟩ (.bool m.W.s)).setCell ⟨w.heap.size + 1, 4, none⟩ (.slice A1 m.W.n c1)).setCell ⟨w.heap.size + 1, 5, none⟩ (.int .i64 m.W.e)).setCell ⟨w.heap.size + 1, 6, none⟩ (.bool m.C.s)).setCell ⟨w.heap.size + 1, 7, none⟩ (.slice A2 m.C.n c2)).setCell ⟨w.heap.size + 1, 8, none⟩ (.int .i64 m.C.e)).setCell ⟨w.heap.size + 1, 9, none⟩ (.bool m.A.s)).setCell ⟨w.heap.size + 1, 10, none⟩ (.slice A3 m.A.n c3)).setCell ⟨w.heap.size + 1, 11, none⟩ (.int .i64 m.A.e)) (w.heap.size + 1) M := by rw [hMe]; exact MBox.all hZ2 ⟨⟨m.S.s, A0, m.S.n, c0, m.S.e, m.S.xs⟩, ⟨m.W.s, A1, m.W.n, c1, m.W.e, m.W.xs⟩, ⟨m.C.s, A2, m.C.n, c2, m.C.e, m.C.xs⟩, ⟨m.A.s, A3, m.A.n, c3, m.A.e, m.A.xs⟩⟩
  have hRX : MRows ((((((((((((w_9.setCell ⟨w.heap.size + 1, 0, none⟩ (.bool m.S.s)).setCell ⟨w.heap.size + 1, 1, none⟩ (.slice A0 m.S.n c0)).setCell ⟨w.heap.size + 1, 2, none⟩ (.int .i64 m.S.e)).setCell ⟨w.heap.size + 1, 3, none⟩ (.bool m.W.s)).setCell ⟨w.heap.size + 1, 4, none⟩ (.slice A1 m.W.n c1)).setCell ⟨w.heap.size + 1, 5, none⟩ (.int .i64 m.W.e)).setCell ⟨w.heap.size + 1, 6, none⟩ (.bool m.C.s)).setCell ⟨w.heap.size + 1, 7, none⟩ (.slice A2 m.C.n c2)).setCell ⟨w.heap.size + 1, 8, none⟩ (.int .i64 m.C.e)).setCell ⟨w.heap.size + 1, 9, none⟩ (.bool m.A.s)).setCell ⟨w.heap.size + 1, 10, none⟩ (.slice A3 m.A.n c3)).setCell ⟨w.heap.size + 1, 11, none⟩ (.int .i64 m.A.e)) w.heap.size w_9.heap.size M := by
    rw [hMe]
    have hfar : ∀ {A : Option Addr} {n : Nat} {xs : List Int}, Ints w_9 (w.heap.size + 2) w_9.heap.size .u32 A n xs → Ints ((((((((((((w_9.setCell ⟨w.heap.size + 1, 0, none⟩ (.bool m.S.s)).setCell ⟨w.heap.size + 1, 1, none⟩ (.slice A0 m.S.n c0)).setCell ⟨w.heap.size + 1, 2, none⟩ (.int .i64 m.S.e)).setCell ⟨w.heap.size + 1, 3, none⟩ (.bool m.W.s)).setCell ⟨w.heap.size + 1, 4, none⟩ (.slice A1 m.W.n c1)).setCell ⟨w.heap.size + 1, 5, none⟩ (.int .i64 m.W.e)).setCell ⟨w.heap.size + 1, 6, none⟩ (.bool m.C.s)).setCell ⟨w.heap.size + 1, 7, none⟩ (.slice A2 m.C.n c2)).setCell ⟨w.heap.size + 1, 8, none⟩ (.int .i64 m.C.e)).setCell ⟨w.heap.size + 1, 9, none⟩ (.bool m.A.s)).setCell ⟨w.heap.size + 1, 10, none⟩ (.slice A3 m.A.n c3)).setCell ⟨w.heap.size + 1, 11, none⟩ (.int .i64 m.A.e)) w.heap.size w_9.heap.size .u32 A n xs := fun h => (ints_rng h fun k h1 h2 => far_all (by omega) ⟨⟨m.S.s, A0, m.S.n, c0, m.S.e, m.S.xs⟩, ⟨m.W.s, A1, m.W.n, c1, m.W.e, m.W.xs⟩, ⟨m.C.s, A2, m.C.n, c2, m.C.e, m.C.xs⟩, ⟨m.A.s, A3, m.A.n, c3, m.A.e, m.A.xs⟩⟩).more (by omega) (Nat.le_refl _)
    exact ⟨hfar I0, hfar I1, hfar I2, hfar I3⟩
  have hY : Below w.heap.size w ((((((((((((w_9.setCell ⟨w.heap.size + 1, 0, none⟩ (.bool m.S.s)).setCell ⟨w.heap.size + 1, 1, none⟩ (.slice A0 m.S.n c0)).setCell ⟨w.heap.size + 1, 2, none⟩ (.int .i64 m.S.e)).setCell ⟨w.heap.size + 1, 3, none⟩ (.bool m.W.s)).setCell ⟨w.heap.size + 1, 4, none⟩ (.slice A1 m.W.n c1)).setCell ⟨w.heap.size + 1, 5, none⟩ (.int .i64 m.W.e)).setCell ⟨w.heap.size + 1, 6, none⟩ (.bool m.C.s)).setCell ⟨w.heap.size + 1, 7, none⟩ (.slice A2 m.C.n c2)).setCell ⟨w.heap.size + 1, 8, none⟩ (.int .i64 m.C.e)).setCell ⟨w.heap.size + 1, 9, none⟩ (.bool m.A.s)).setCell ⟨w.heap.size + 1, 10, none⟩ (.slice A3 m.A.n c3)).setCell ⟨w.heap.size + 1, 11, none⟩ (.int .i64 m.A.e)) := below_all hBL (by omega) ⟨⟨m.S.s, A0, m.S.n, c0, m.S.e, m.S.xs⟩, ⟨m.W.s, A1, m.W.n, c1, m.W.e, m.W.xs⟩, ⟨m.C.s, A2, m.C.n, c2, m.C.e, m.C.xs⟩, ⟨m.A.s, A3, m.A.n, c3, m.A.e, m.A.xs⟩⟩
  have hs : w_9.heap.size ≤ ((((((((((((w_9.setCell ⟨w.heap.size + 1, 0, none⟩ (.bool m.S.s)).setCell ⟨w.heap.size + 1, 1, none⟩ (.slice A0 m.S.n c0)).setCell ⟨w.heap.size + 1, 2, none⟩ (.int .i64 m.S.e)).setCell ⟨w.heap.size + 1, 3, none⟩ (.bool m.W.s)).setCell ⟨w.heap.size + 1, 4, none⟩ (.slice A1 m.W.n c1)).setCell ⟨w.heap.size + 1, 5, none⟩ (.int .i64 m.W.e)).setCell ⟨w.heap.size + 1, 6, none⟩ (.bool m.C.s)).setCell ⟨w.heap.size + 1, 7, none⟩ (.slice A2 m.C.n c2)).setCell ⟨w.heap.size + 1, 8, none⟩ (.int .i64 m.C.e)).setCell ⟨w.heap.size + 1, 9, none⟩ (.bool m.A.s)).setCell ⟨w.heap.size + 1, 10, none⟩ (.slice A3 m.A.n c3)).setCell ⟨w.heap.size + 1, 11, none⟩ (.int .i64 m.A.e)).heap.size := Nat.le_of_eq (size_all (w := w_9) (g := w.heap.size + 1) ⟨⟨m.S.s, A0, m.S.n, c0, m.S.e, m.S.xs⟩, ⟨m.W.s, A1, m.W.n, c1, m.W.e, m.W.xs⟩, ⟨m.C.s, A2, m.C.n, c2, m.C.e, m.C.xs⟩, ⟨m.A.s, A3, m.A.n, c3, m.A.e, m.A.xs⟩⟩).symm
  generalize ((((((((((((w_9.setCell ⟨w.heap.size + 1, 0, none⟩ (.bool m.S.s)).setCell ⟨w.heap.size + 1, 1, none⟩ (.slice A0 m.S.n c0)).setCell ⟨w.heap.size + 1, 2, none⟩ (.int .i64 m.S.e)).setCell ⟨w.heap.size + 1, 3, none⟩ (.bool m.W.s)).setCell ⟨w.heap.size + 1, 4, none⟩ (.slice A1 m.W.n c1)).setCell ⟨w.heap.size + 1, 5, none⟩ (.int .i64 m.W.e)).setCell ⟨w.heap.size + 1, 6, none⟩ (.bool m.C.s)).setCell ⟨w.heap.size + 1, 7, none⟩ (.slice A2 m.C.n c2)).setCell ⟨w.heap.size + 1, 8, none⟩ (.int .i64 m.C.e)).setCell ⟨w.heap.size + 1, 9, none⟩ (.bool m.A.s)).setCell ⟨w.heap.size + 1, 10, none⟩ (.slice A3 m.A.n c3)).setCell ⟨w.heap.size + 1, 11, none⟩ (.int .i64 m.A.e)) = U at *
  have hTw : ∀ x, x < 4 → TwinV (m.get x) (M.get x) := by
    rw [hMe]
    exact four ⟨rfl, rfl, rfl, rfl, hc0⟩ ⟨rfl, rfl, rfl, rfl, hc1⟩ ⟨rfl, rfl, rfl, rfl, hc2⟩ ⟨rfl, rfl, rfl, rfl, hc3⟩
  refine doneE (by kernel_rfl) ?_ _
  go_wp2
  obtain ⟨⟨k0, k1, k2, k3, k4, k5, k6, k7, k8, k9, k10, k11⟩, kf⟩ := MBox.cells hX
  exact bodyPost_ret (v := .agg #[.bool M.S.s, .slice M.S.A M.S.n M.S.c, .int .i64 M.S.e, .bool M.W.s, .slice M.W.A M.W.n M.W.c, .int .i64 M.W.e, .bool M.C.s, .slice M.C.A M.C.n M.C.c, .int .i64 M.C.e, .bool M.A.s, .slice M.A.A M.A.n M.A.c, .int .i64 M.A.e]) (by simp [results, Tryd.results29, go_sem, k0, k1, k2, k3, k4, k5, k6, k7, k8, k9, k10, k11]) rfl ⟨M, rfl, hTw, hY, hRX.more (Nat.le_refl _) hs⟩
end Ma
end Go.Proofs.YtlbkepiflhchdaaDoor

namespace Go.Proofs.YtlbkepiflhchdaaDoor
open Go.RowKit
namespace Ma
open Dp Dy
/-- Copies, one by one. -/
def Twins : List Mv → List Mv → Prop
  | [], [] => True
  | a :: l, u :: k => (∀ x, x < 4 → TwinV (a.get x) (u.get x)) ∧ Twins l k
  | _, _ => False
theorem Twins.len : ∀ {l k : List Mv}, Twins l k → k.length = l.length
  | [], [], _ => rfl
  | _ :: _, _ :: _, h => by simp [Twins.len h.2]
  | [], _ :: _, h => h.elim
  | _ :: _, [], h => h.elim
theorem Twins.snoc : ∀ {l k : List Mv} {a u : Mv}, Twins l k → (∀ x, x < 4 → TwinV (a.get x) (u.get x)) → Twins (l ++ [a]) (k ++ [u])
  | [], [], _, _, _, h => ⟨h, trivial⟩
  | _ :: _, _ :: _, _, _, h, h' => ⟨h.1, Twins.snoc h.2 h'⟩
  | [], _ :: _, _, _, h, _ => h.elim
  | _ :: _, [], _, _, h, _ => h.elim
theorem Twins.get : ∀ {l k : List Mv}, Twins l k → ∀ (j : Nat) (h : j < l.length) (h' : j < k.length), ∀ x, x < 4 → TwinV (l[j].get x) (k[j].get x)
  | [], [], _, j, h, _ => absurd h (Nat.not_lt_zero _)
  | _ :: _, _ :: _, h, 0, _, _ => h.1
  | _ :: _, _ :: _, h, j + 1, h1, h2 => Twins.get h.2 j (by simpa using h1) (by simpa using h2)
  | [], _ :: _, h, _, _, _ => h.elim
  | _ :: _, [], h, _, _, _ => h.elim
theorem twins_dn {a u : Mv} (h : ∀ x, x < 4 → TwinV (a.get x) (u.get x)) : dnM u = dnM a := by
  funext j
  obtain ⟨g1, _, g3, g4, _⟩ := twin_all h j
  unfold dnM
  rw [g1, g3, g4]
theorem Twins.fold : ∀ {l k : List Mv}, Twins l k → ∀ R, foldM R k = foldM R l
  | [], [], _, _ => rfl
  | a :: l, u :: k, h, R => by
    rw [foldM_cons, foldM_cons, twins_dn h.1]
    by_cases hc : ∀ x, x < 4 → (addD (R x) (dnM a x)).2 = 0
    · rw [if_pos hc, if_pos hc]
      exact Twins.fold h.2 _
    · rw [if_neg hc, if_neg hc]
  | [], _ :: _, h, _ => h.elim
  | _ :: _, [], h, _ => h.elim
theorem Twins.bad : ∀ {l k : List Mv}, Twins l k → ((∃ m ∈ k, ¬ m.may) ↔ ∃ m ∈ l, ¬ m.may)
  | [], [], _ => by simp
  | a :: l, u :: k, h => by
    have ih := Twins.bad h.2
    have hm := twin_may h.1
    simp only [List.mem_cons, exists_eq_or_imp]
    rw [ih, hm]
  | [], _ :: _, h => h.elim
  | _ :: _, [], h => h.elim
theorem Twins.sum {l k : List Mv} (h : Twins l k) : sumM k = sumM l := by
  unfold sumM
  rw [h.len, h.fold]
  by_cases hl : 4096 < l.length
  · rw [if_pos hl, if_pos hl]
  · rw [if_neg hl, if_neg hl]
    by_cases hb : ∃ m ∈ l, ¬ m.may
    · rw [if_pos hb, if_pos (h.bad.2 hb)]
    · rw [if_neg hb, if_neg (fun k => hb (h.bad.1 k))]
theorem twins_take {ms os : List Mv} {i : Nat} (h : Twins (ms.take i) os) (hi : i < ms.length) {u : Mv} (hu : ∀ x, x < 4 → TwinV (ms[i].get x) (u.get x)) : Twins (ms.take (i + 1)) (os ++ [u]) := by
  have e : ms.take (i + 1) = ms.take i ++ [ms[i]] := by rw [List.take_add_one]; simp [hi]
  rw [e]
  exact h.snoc hu
theorem sumM_many {ms : List Mv} (h : 4096 < ms.length) : sumM ms = (zR, 4) := by
  unfold sumM
  rw [if_pos h]
/-- mass.Sum, of lists of any length. -/
theorem MSum_all (w : World) (A : Option Addr) (n c : Nat) (ms : List Mv) (hL : LMs w 0 w.heap.size A n ms) (hT : Tab w) (R : Nat → Dn) (code : Int) (h : sumM ms = (R, code)) :
    Calls Tryd.prog 30 #[.slice A n c] w fun e w' => ∃ m' : Mv, e = .returned (.tuple #[.agg #[.bool m'.S.s, .slice m'.S.A m'.S.n m'.S.c, .int .i64 m'.S.e, .bool m'.W.s, .slice m'.W.A m'.W.n m'.W.c, .int .i64 m'.W.e, .bool m'.C.s, .slice m'.C.A m'.C.n m'.C.c, .int .i64 m'.C.e, .bool m'.A.s, .slice m'.A.A m'.A.n m'.A.c, .int .i64 m'.A.e], .int .i64 code]) ∧ Below w.heap.size w w' ∧ IsM R m' ∧ MRows w' w.heap.size w'.heap.size m' := by
  by_cases hn : n ≤ 4096
  · exact MSum_any w A n c ms hL hn hT R code h
  · rw [sumM_many (by rw [hL.len]; omega)] at h
    injection h with h1 h2
    subst h1 h2
    exact (MSum_many w A n c (by omega)).mono fun e w' ⟨h1, h2⟩ => ⟨ZM, h1, h2, IsM.zero, ZM_rows ..⟩
end Ma
end Go.Proofs.YtlbkepiflhchdaaDoor

namespace Go.Proofs.YtlbkepiflhchdaaDoor
open Go.RowKit
namespace Ma
open Dp Dy
theorem mayMB_neg {m : Mv} (h : mayMB m = false) : ¬ m.may := fun k => by
  have := (mayMB_iff m).2 k
  rw [h] at this
  cases this
set_option maxHeartbeats 6400000 in
set_option maxRecDepth 100000 in
/-- headcountref06.Sum, of too many. -/
theorem RSum_many (w : World) (A : Option Addr) (n c : Nat) (hn : 4096 < n) (R : Nat → Dn) (code : Int) (hR : R = zR) (hc : code = 4) :
    Calls Tryd.prog 31 #[.slice A n c] w fun e w' => ∃ m' : Mv, e = .returned (.tuple #[.agg #[.bool m'.S.s, .slice m'.S.A m'.S.n m'.S.c, .int .i64 m'.S.e, .bool m'.W.s, .slice m'.W.A m'.W.n m'.W.c, .int .i64 m'.W.e, .bool m'.C.s, .slice m'.C.A m'.C.n m'.C.c, .int .i64 m'.C.e, .bool m'.A.s, .slice m'.A.A m'.A.n m'.A.c, .int .i64 m'.A.e], .int .i64 code]) ∧ Below w.heap.size w w' ∧ IsM R m' ∧ MRows w' w.heap.size w'.heap.size m' := by
  subst hR hc
  obtain ⟨w1, hw, hZ1, hb, l1⟩ := alloc_z w
  obtain ⟨⟨z0, z1, z2, z3, z4, z5, z6, z7, z8, z9, z10, z11⟩, zf⟩ := MBox.cells hZ1
  go_enter Tryd.func31, Tryd.ntmps31
  go_wp2
  try clear hw
  obtain ⟨U, M, hc, hMe, hX, hbU, hfU, s1_, s2_⟩ := zero_to hZ1
  try rw [hc]
  have hQ := hbU _ _ hb (Nat.le_refl _)
  clear hc z0 z1 z2 z3 z4 z5 z6 z7 z8 z9 z10 z11 zf
  obtain ⟨⟨k0, k1, k2, k3, k4, k5, k6, k7, k8, k9, k10, k11⟩, kf⟩ := MBox.cells hX
  refine bodyPost_ret (v := .tuple #[.agg #[.bool M.S.s, .slice M.S.A M.S.n M.S.c, .int .i64 M.S.e, .bool M.W.s, .slice M.W.A M.W.n M.W.c, .int .i64 M.W.e, .bool M.C.s, .slice M.C.A M.C.n M.C.c, .int .i64 M.C.e, .bool M.A.s, .slice M.A.A M.A.n M.A.c, .int .i64 M.A.e], .int .i64 4]) (by simp [results, Tryd.results31, go_sem, k0, k1, k2, k3, k4, k5, k6, k7, k8, k9, k10, k11]) rfl ⟨M, rfl, hQ, ?_, ?_⟩
  · rw [hMe]
    exact IsM.zero
  · rw [hMe]
    exact ZM_rows ..
set_option maxHeartbeats 25600000 in
set_option maxRecDepth 100000 in
/-- headcountref06.Sum. -/
theorem RSum_any (w : World) (A : Option Addr) (n c : Nat) (ms : List Mv) (hL : LMs w 0 w.heap.size A n ms) (hn : n ≤ 4096) (R : Nat → Dn) (code : Int) (h : sumM ms = (R, code)) :
    Calls Tryd.prog 31 #[.slice A n c] w fun e w' => ∃ m' : Mv, e = .returned (.tuple #[.agg #[.bool m'.S.s, .slice m'.S.A m'.S.n m'.S.c, .int .i64 m'.S.e, .bool m'.W.s, .slice m'.W.A m'.W.n m'.W.c, .int .i64 m'.W.e, .bool m'.C.s, .slice m'.C.A m'.C.n m'.C.c, .int .i64 m'.C.e, .bool m'.A.s, .slice m'.A.A m'.A.n m'.A.c, .int .i64 m'.A.e], .int .i64 code]) ∧ Below w.heap.size w w' ∧ IsM R m' ∧ MRows w' w.heap.size w'.heap.size m' := by
  have HL := Lib.hid hL.len
  unfold sumM at h
  rw [if_neg (by rw [HL.out]; omega)] at h
  have H := Lib.hid h
  clear h
  obtain ⟨i0, hi0, hz0, hz1, hz2⟩ := info_parts infoM
  obtain ⟨w1, hw, hZ1, hb, l1⟩ := alloc_z w
  go_enter Tryd.func31, Tryd.ntmps31
  go_wp2
  try clear hw
  go_loopw [3, 4] (fun ev iv wr => ∃ i : Nat, iv = .int .i64 i ∧ ev = .int .i64 0 ∧ i ≤ n ∧ MBox wr w.heap.size ZM ∧ Below w.heap.size w wr ∧ w.heap.size < wr.heap.size ∧ Hid (∀ j (h : j < ms.length), j < i → ms[j].may)) (fun _ iv _ => n - (intOf iv).toNat)
  case atStart => exact ⟨0, rfl, rfl, Nat.zero_le _, hZ1, hb, l1, Lib.hid fun j h hj => absurd hj (Nat.not_lt_zero _)⟩
  case round =>
    clear hZ1 hb l1
    obtain ⟨i, rfl, rfl, hi1, hZ1, hb, l1, hall⟩ := hrel
    have hLr := hL.below hb (Nat.le_refl _)
    by_cases hlt : i < n
    · skip
      have hi2 : i < ms.length := by rw [HL.out]; exact hlt
      obtain ⟨b, off, hA, h1, h2, hc⟩ := hLr.row (by omega)
      have hci := hc i hi2
      have hri := hLr.rows i hi2
      obtain ⟨d, hd⟩ : ∃ d, ms[i] = d := ⟨_, rfl⟩
      rw [hd] at hci hri
      have HD := Lib.hid hd
      clear hd hc
      subst hA
      clear hLr
      have hwr : IntKind.i64.wrap ((i : Int) + 1) = ((i + 1 : Nat) : Int) := by rw [IntKind.wrap_i64]; omega
      have hciH := Lib.hid hci
      obtain ⟨k0, k1, k2, k3, k4, k5, k6, k7, k8, k9, k10, k11⟩ := hci
      have hr2 : MRows wr 0 wr.heap.size d := hri.more (Nat.le_refl _) (by omega)
      obtain ⟨q, hq⟩ : ∃ q, mayMB d = q := ⟨_, rfl⟩
      have HQ := Lib.hid hq
      clear hq hri hciH
      go_wp2_with fail
      refine (RMay_any wr d hr2 q HQ.out).mono ?_
      rintro e w3 ⟨rfl, hB⟩
      clear k0 k1 k2 k3 k4 k5 k6 k7 k8 k9 k10 k11 hr2
      have l3 := hB.size
      have hZ3 : MBox w3 w.heap.size ZM := box_on hZ1 hB (by omega)
      have hb3 := hb.trans (hB.mono (by omega))
      clear hB hZ1 hb
      cases q
      · have hm := mayMB_neg HQ.out
        have hcode : (zR, (8 : Int)) = (R, code) := by
          have := H.out
          rw [if_pos ⟨ms[i], List.getElem_mem hi2, by rw [HD.out]; exact hm⟩] at this
          exact this
        injection hcode with hR hcd
        subst hR hcd
        obtain ⟨⟨z0, z1, z2, z3, z4, z5, z6, z7, z8, z9, z10, z11⟩, zf⟩ := MBox.cells hZ3
        go_wp2
        obtain ⟨U, M, hc, hMe, hX, hbU, hfU, s1_, s2_⟩ := zero_to hZ3
        try rw [hc]
        have hQ := hbU _ _ hb3 (Nat.le_refl _)
        clear hc z0 z1 z2 z3 z4 z5 z6 z7 z8 z9 z10 z11 zf
        obtain ⟨⟨k0, k1, k2, k3, k4, k5, k6, k7, k8, k9, k10, k11⟩, kf⟩ := MBox.cells hX
        refine bodyPost_ret (v := .tuple #[.agg #[.bool M.S.s, .slice M.S.A M.S.n M.S.c, .int .i64 M.S.e, .bool M.W.s, .slice M.W.A M.W.n M.W.c, .int .i64 M.W.e, .bool M.C.s, .slice M.C.A M.C.n M.C.c, .int .i64 M.C.e, .bool M.A.s, .slice M.A.A M.A.n M.A.c, .int .i64 M.A.e], .int .i64 8]) (by simp [results, Tryd.results31, go_sem, k0, k1, k2, k3, k4, k5, k6, k7, k8, k9, k10, k11]) rfl ⟨M, rfl, hQ, ?_, ?_⟩
        · rw [hMe]
          exact IsM.zero
        · rw [hMe]
          exact ZM_rows ..
      · have hm := (mayMB_iff d).1 HQ.out
        go_wp2
        go_roundw
        case rel => exact ⟨i + 1, by first | rfl | (congr 1; omega) | go_num, rfl, by omega, hZ3, hb3, by omega, Lib.hid fun j hj hji => by
          by_cases e : j = i
          · subst e
            rw [HD.out]
            exact hm
          · exact hall.out j hj (by omega)⟩
        case measure => first | (simp [intOf]; done) | (simp [intOf]; omega)
    · skip
      have hin : n ≤ i := by omega
      have hmay : Hid (∀ j (h : j < ms.length), ms[j].may) := Lib.hid fun j h => hall.out j h (by have := HL.out; omega)
      have H2 : Hid ((match foldM zR ms with | some R => (R, (0 : Int)) | none => (zR, 10)) = (R, code)) := Lib.hid (by
        have := H.out
        rw [if_neg (by
          rintro ⟨m, hm, hn⟩
          obtain ⟨j, hj, e⟩ := List.getElem_of_mem hm
          exact hn (e ▸ hmay.out j hj))] at this
        exact this)
      clear hall hLr
      obtain ⟨wo, hwo⟩ : ∃ W : World, W = wr := ⟨_, rfl⟩
      subst hwo
      go_wp2_with fail
      obtain ⟨w5, hw5, hS0, hB5, l5⟩ := alloc_z wo
      rw [hw5]
      replace hZ1 := box_on hZ1 hB5 l1
      replace hb := hb.trans (hB5.mono (by omega))
      clear hw5 hB5
      go_loopw [3, 6, 7, 8] (fun ev iv _ _ ww => ∃ (i : Nat) (S : Mv) (R' : Nat → Dn), iv = .int .i64 i ∧ ev = .int .i64 0 ∧ i ≤ n ∧ MBox ww wo.heap.size S ∧ MBox ww w.heap.size ZM ∧ Below w.heap.size w ww ∧ wo.heap.size < ww.heap.size ∧ MRows ww (wo.heap.size + 1) ww.heap.size S ∧ Hid (IsM R' S ∧ MayR R' ∧ foldM R' (ms.drop i) = foldM zR ms)) (fun _ iv _ _ _ => n - (intOf iv).toNat)
      case atStart => exact ⟨0, ZM, zR, rfl, rfl, Nat.zero_le _, hS0, hZ1, hb, l5, ZM_rows .., Lib.hid ⟨IsM.zero, zR_may, rfl⟩⟩
      case round =>
        clear hS0 hZ1 hb l5
        obtain ⟨i, S, R', rfl, rfl, hi1, hS1, hZ1, hb, l5, hRS, hI⟩ := hrel
        have hLr := hL.below hb (Nat.le_refl _)
        by_cases hlt : i < n
        · skip
          have hi2 : i < ms.length := by rw [HL.out]; exact hlt
          obtain ⟨b, off, hA, h1, h2, hc⟩ := hLr.row (by omega)
          have hci := hc i hi2
          have hri := hLr.rows i hi2
          obtain ⟨d, hd⟩ : ∃ d, ms[i] = d := ⟨_, rfl⟩
          rw [hd] at hci hri
          have HD := Lib.hid hd
          clear hd hc
          subst hA
          clear hLr
          have hwr : IntKind.i64.wrap ((i : Int) + 1) = ((i + 1 : Nat) : Int) := by rw [IntKind.wrap_i64]; omega
          have hmd := Lib.hid (show d.may by have := hmay.out i hi2; rw [HD.out] at this; exact this)
          obtain ⟨R2, q, hq⟩ : ∃ R2 q, addM S d = (R2, q) := ⟨_, _, rfl⟩
          have hstep := Lib.hid (add_step hri hmd.out hI.out.1 hI.out.2.1 hq)
          have HMR2 := Lib.hid (show MayR R2 by have := addM_may S d; rw [hq] at this; exact this)
          have HQ := Lib.hid hq
          clear hq hmd
          go_wp2_with fail
          refine region_E (Keeps wr) [] (m := 12) (L := #[false, false, false, false, false, false, false, false, false, false, false, false]) (by kernel_rfl) (by rfl) (by rfl) ?_
          have kp_ : Keeps wr wr.drew := fun _ _ => rfl
          have hS2 : MRows wr.drew 0 wr.drew.heap.size S := (rows_rng hRS (w' := wr.drew) (fun _ _ _ => rfl)).more (Nat.zero_le _) (Nat.le_refl _)
          have hd2 : MRows wr.drew 0 wr.drew.heap.size d := (rows_rng hri (w' := wr.drew) (fun _ _ _ => rfl)).more (Nat.le_refl _) (by show w.heap.size ≤ wr.heap.size; omega)
          have b_ : Below wr.heap.size wr wr.drew := (Below.refl _ _).drew
          have l6 : wr.heap.size ≤ wr.drew.heap.size := Nat.le_refl _
          have hlt2 : b < wr.heap.size := by omega
          clear hri hRS
          generalize wr.drew = w6 at *
          refine readE (i := 0) (L := #[true, false, false, false, false, false, false, false, false, false, false, false]) (v := .agg #[.bool S.S.s, .slice S.S.A S.S.n S.S.c, .int .i64 S.S.e, .bool S.W.s, .slice S.W.A S.W.n S.W.c, .int .i64 S.W.e, .bool S.C.s, .slice S.C.A S.C.n S.C.c, .int .i64 S.C.e, .bool S.A.s, .slice S.A.A S.A.n S.A.c, .int .i64 S.A.e]) rfl (by rfl) (by kernel_rfl) (by kernel_rfl) (by kernel_rfl) (fun _ _ _ h => h) (by assumption) (by rfl) ?ya ?za
          case ya =>
            intro w' h1
            obtain ⟨⟨k0, k1, k2, k3, k4, k5, k6, k7, k8, k9, k10, k11⟩, kf⟩ := MBox.cells ((h1 _ l5).trans hS1)
            go_simp
          try simp only [Act.put, List.setIfInBounds_toArray, List.set_cons_zero, List.set_cons_succ]
          refine pureE (i := 1) (L := #[true, true, false, false, false, false, false, false, false, false, false, false]) (v := ?_) rfl (by rfl) (by kernel_rfl) (by kernel_rfl) (by kernel_rfl) (fun _ _ _ h => h) (by rfl) ?hy16 ?rest16
          case hy16 => intro w; go_simp; (try with_reducible rfl)
          try simp only [Act.put, List.setIfInBounds_toArray, List.set_cons_zero, List.set_cons_succ]
          refine pureE (i := 2) (L := #[true, true, true, false, false, false, false, false, false, false, false, false]) (v := ?_) rfl (by rfl) (by kernel_rfl) (by kernel_rfl) (by kernel_rfl) (fun _ _ _ h => h) (by rfl) ?hy17 ?rest17
          case hy17 => intro w; go_simp; (try with_reducible rfl)
          try simp only [Act.put, List.setIfInBounds_toArray, List.set_cons_zero, List.set_cons_succ]
          refine pureE (i := 3) (L := #[true, true, true, true, false, false, false, false, false, false, false, false]) (v := ?_) rfl (by rfl) (by kernel_rfl) (by kernel_rfl) (by kernel_rfl) (fun _ _ _ h => h) (by rfl) ?hy18 ?rest18
          case hy18 => intro w; go_simp; (try with_reducible rfl)
          try simp only [Act.put, List.setIfInBounds_toArray, List.set_cons_zero, List.set_cons_succ]
          refine readE (i := 4) (L := #[true, true, true, true, true, false, false, false, false, false, false, false]) (v := .agg #[.bool d.S.s, .slice d.S.A d.S.n d.S.c, .int .i64 d.S.e, .bool d.W.s, .slice d.W.A d.W.n d.W.c, .int .i64 d.W.e, .bool d.C.s, .slice d.C.A d.C.n d.C.c, .int .i64 d.C.e, .bool d.A.s, .slice d.A.A d.A.n d.A.c, .int .i64 d.A.e]) rfl (by rfl) (by kernel_rfl) (by kernel_rfl) (by kernel_rfl) (fun _ _ _ h => h) (by assumption) (by rfl) ?yb ?zb
          case yb =>
            intro w' h1
            obtain ⟨k0, k1, k2, k3, k4, k5, k6, k7, k8, k9, k10, k11⟩ := hci.blk (h1 _ hlt2)
            go_simp
          try simp only [Act.put, List.setIfInBounds_toArray, List.set_cons_zero, List.set_cons_succ]
          refine stepK2 (i := 5) (j := 9) (Li := #[true, true, true, true, true, true, false, false, false, false, false, false]) (Lj := #[true, true, true, true, true, false, false, false, false, true, false, false]) rfl rfl (by rfl) (by rfl) (by kernel_rfl) (by rfl) (by rfl) (fun K hK => ?oa) (fun K hK => ?ob)
          case oa =>
            
            go_simp
            go_at_call 52
            refine (RAdd_num w6 S d hS2 hd2 R2 q HQ.out).mono ?_
            rintro e' w7 ⟨S', rfl, hB, hIS, hRS'⟩
            replace hIS := Lib.hid hIS
            have lw7 := hB.size
            replace kp_ := Keeps.on kp_ (by omega) hB
            replace b_ := b_.trans (hB.mono (by omega))
            clear hB hS2 hd2
            refine hK _ _ ⟨fun _ _ => kp_, ?_⟩
            clear hK K
            try simp only [Act.put, List.setIfInBounds_toArray, List.set_cons_zero, List.set_cons_succ]
            refine pureE (i := 6) (L := #[true, true, true, true, true, true, true, false, false, false, false, false]) (v := ?_) rfl (by rfl) (by kernel_rfl) (by kernel_rfl) (by kernel_rfl) (fun _ _ _ h => h) (by rfl) ?hy20 ?rest20
            case hy20 => intro w; go_simp; (try with_reducible rfl)
            try simp only [Act.put, List.setIfInBounds_toArray, List.set_cons_zero, List.set_cons_succ]
            refine pureE (i := 7) (L := #[true, true, true, true, true, true, true, true, false, false, false, false]) (v := ?_) rfl (by rfl) (by kernel_rfl) (by kernel_rfl) (by kernel_rfl) (fun _ _ _ h => h) (by rfl) ?hy21 ?rest21
            case hy21 => intro w; go_simp; (try with_reducible rfl)
            try simp only [Act.put, List.setIfInBounds_toArray, List.set_cons_zero, List.set_cons_succ]
            refine pureE (i := 8) (L := #[true, true, true, true, true, true, true, true, true, false, false, false]) (v := ?_) rfl (by rfl) (by kernel_rfl) (by kernel_rfl) (by kernel_rfl) (fun _ _ _ h => h) (by rfl) ?hy22 ?rest22
            case hy22 => intro w; go_simp; (try with_reducible rfl)
            try simp only [Act.put, List.setIfInBounds_toArray, List.set_cons_zero, List.set_cons_succ]
            refine stepK (i := 9) (L := #[true, true, true, true, true, true, true, true, true, true, false, false]) rfl (by rfl) (by kernel_rfl) (by rfl) (fun K hK => ?_)
            go_simp
            obtain ⟨w8, hw_, hN, hB, lw8⟩ := alloc_z w7
            rw [hw_]
            replace kp_ := Keeps.on kp_ (by omega) hB
            replace b_ := b_.trans (hB.mono (by omega))
            replace hRS' : MRows w8 w6.heap.size w7.heap.size S' := hRS'.below hB (Nat.le_refl _)
            clear hB hw_
            refine hK _ _ ⟨fun _ _ => kp_, ?_⟩
            clear hK K
            try simp only [Act.put, List.setIfInBounds_toArray, List.set_cons_zero, List.set_cons_succ]
            obtain ⟨⟨z0, z1, z2, z3, z4, z5, z6, z7, z8, z9, z10, z11⟩, zf⟩ := MBox.cells hN
            obtain ⟨w9, hw9, hN9, hb9, hf9, l9, l9'⟩ := all_to hN S'
            refine stepK (i := 10) (L := #[true, true, true, true, true, true, true, true, true, true, true, false]) rfl (by rfl) (by kernel_rfl) (by rfl) (fun K hK => ?_)
            go_simp
            try rw [hw9]
            have k9 : Keeps wr w9 := fun p hp => (hf9 _ (by omega)).trans (kp_ p hp)
            have bb := hb9 _ _ b_ (by omega)
            refine hK _ _ ⟨fun _ _ => k9, ?_⟩
            clear hK K hw9 z0 z1 z2 z3 z4 z5 z6 z7 z8 z9 z10 z11 zf
            try simp only [Act.put, List.setIfInBounds_toArray, List.set_cons_zero, List.set_cons_succ]
            refine pureE (i := 11) (L := #[true, true, true, true, true, true, true, true, true, true, true, true]) (v := ?_) rfl (by rfl) (by kernel_rfl) (by kernel_rfl) (by kernel_rfl) (fun _ _ _ h => h) (by rfl) ?hy25 ?rest25
            case hy25 => intro w; go_simp; (try with_reducible rfl)
            try simp only [Act.put, List.setIfInBounds_toArray, List.set_cons_zero, List.set_cons_succ]
            refine doneE (by kernel_rfl) ?_ _
            have hS9 : MBox w9 wo.heap.size S := (k9 _ l5).trans hS1
            have hZ9 : MBox w9 w.heap.size ZM := (k9 _ (by omega)).trans hZ1
            have hb10 := hb.trans (bb.mono (by omega))
            have rr9 : MRows w9 wr.heap.size w9.heap.size S' := (rows_rng hRS' (w' := w9) (fun b h1 h2 => hf9 b (by omega))).more (by omega) (by omega)
            clear b_ bb kp_ hN hb9
            rcases hstep.out with ⟨hq0, hs0, hs1⟩ | ⟨hq0, hs0, hs1⟩
            · subst hq0
              have hI2 : Hid (IsM (fun x => (addD (R' x) (dnM d x)).1) S' ∧ MayR (fun x => (addD (R' x) (dnM d x)).1) ∧ foldM (fun x => (addD (R' x) (dnM d x)).1) (ms.drop (i + 1)) = foldM zR ms) := Lib.hid ⟨hIS.out.of_eq fun x hx => (hs1 x hx).symm, fun x _ => add_may .., by
                have e := hI.out.2.2
                rw [List.drop_eq_getElem_cons hi2, HD.out, foldM_cons, if_pos hs0] at e
                exact e⟩
              clear hs0 hs1 hstep
              obtain ⟨⟨z0, z1, z2, z3, z4, z5, z6, z7, z8, z9, z10, z11⟩, zf⟩ := MBox.cells hN9
              obtain ⟨⟨y0, y1, y2, y3, y4, y5, y6, y7, y8, y9, y10, y11⟩, yf⟩ := MBox.cells hS9
              obtain ⟨w11, hw11, hS11, hb11, hf11, l11, l11'⟩ := all_to hS9 S'
              go_wp2
              try rw [hw11]
              clear hw11 z0 z1 z2 z3 z4 z5 z6 z7 z8 z9 z10 z11 zf y0 y1 y2 y3 y4 y5 y6 y7 y8 y9 y10 y11 yf
              have hZ11 : MBox w11 w.heap.size ZM := (hf11 _ (by omega)).trans hZ9
              have hb12 := hb11 _ _ hb10 (by omega)
              have rr11 : MRows w11 (wo.heap.size + 1) w11.heap.size S' := (rows_rng rr9 (w' := w11) (fun b h1 h2 => hf11 b (by omega))).more (by omega) (by omega)
              go_roundw
              case rel => exact ⟨i + 1, S', _, by first | rfl | (congr 1; omega) | go_num, rfl, by omega, hS11, hZ11, hb12, by omega, rr11, hI2⟩
              case measure => first | (simp [intOf]; done) | (simp [intOf]; omega)
            · subst hq0
              have hcode : (zR, (10 : Int)) = (R, code) := by
                have e := hI.out.2.2
                rw [List.drop_eq_getElem_cons hi2, HD.out, foldM_cons, if_neg hs0] at e
                have e2 := H2.out
                rw [← e] at e2
                exact e2
              injection hcode with hR hcd
              subst hR hcd
              clear hs0 hs1 hstep
              obtain ⟨⟨z0, z1, z2, z3, z4, z5, z6, z7, z8, z9, z10, z11⟩, zf⟩ := MBox.cells hZ9
              go_wp2
              obtain ⟨U, M, hc, hMe, hX, hbU, hfU, s1_, s2_⟩ := zero_to hZ9
              try rw [hc]
              have hQ := hbU _ _ hb10 (Nat.le_refl _)
              clear hc z0 z1 z2 z3 z4 z5 z6 z7 z8 z9 z10 z11 zf
              obtain ⟨⟨k0, k1, k2, k3, k4, k5, k6, k7, k8, k9, k10, k11⟩, kf⟩ := MBox.cells hX
              refine bodyPost_ret (v := .tuple #[.agg #[.bool M.S.s, .slice M.S.A M.S.n M.S.c, .int .i64 M.S.e, .bool M.W.s, .slice M.W.A M.W.n M.W.c, .int .i64 M.W.e, .bool M.C.s, .slice M.C.A M.C.n M.C.c, .int .i64 M.C.e, .bool M.A.s, .slice M.A.A M.A.n M.A.c, .int .i64 M.A.e], .int .i64 10]) (by simp [results, Tryd.results31, go_sem, k0, k1, k2, k3, k4, k5, k6, k7, k8, k9, k10, k11]) rfl ⟨M, rfl, hQ, ?_, ?_⟩
              · rw [hMe]
                exact IsM.zero
              · rw [hMe]
                exact ZM_rows ..
          case ob =>
            
            go_simp
            obtain ⟨w7, hw_, hN, hB, lw7⟩ := alloc_z w6
            rw [hw_]
            replace kp_ := Keeps.on kp_ (by omega) hB
            replace b_ := b_.trans (hB.mono (by omega))
            replace hS2 := hS2.on hB
            replace hd2 := hd2.on hB
            clear hB hw_
            refine hK _ _ ⟨fun _ _ => kp_, ?_⟩
            clear hK K
            try simp only [Act.put, List.setIfInBounds_toArray, List.set_cons_zero, List.set_cons_succ]
            refine stepK (i := 5) (L := #[true, true, true, true, true, true, false, false, false, true, false, false]) rfl (by rfl) (by kernel_rfl) (by rfl) (fun K hK => ?_)
            go_simp
            go_at_call 52
            refine (RAdd_num w7 S d hS2 hd2 R2 q HQ.out).mono ?_
            rintro e' w8 ⟨S', rfl, hB, hIS, hRS'⟩
            replace hIS := Lib.hid hIS
            have lw8 := hB.size
            replace kp_ := Keeps.on kp_ (by omega) hB
            replace b_ := b_.trans (hB.mono (by omega))
            replace hN := box_on hN hB (by omega)
            clear hB hS2 hd2
            refine hK _ _ ⟨fun _ _ => kp_, ?_⟩
            clear hK K
            try simp only [Act.put, List.setIfInBounds_toArray, List.set_cons_zero, List.set_cons_succ]
            refine pureE (i := 6) (L := #[true, true, true, true, true, true, true, false, false, true, false, false]) (v := ?_) rfl (by rfl) (by kernel_rfl) (by kernel_rfl) (by kernel_rfl) (fun _ _ _ h => h) (by rfl) ?hy27 ?rest27
            case hy27 => intro w; go_simp; (try with_reducible rfl)
            try simp only [Act.put, List.setIfInBounds_toArray, List.set_cons_zero, List.set_cons_succ]
            refine pureE (i := 7) (L := #[true, true, true, true, true, true, true, true, false, true, false, false]) (v := ?_) rfl (by rfl) (by kernel_rfl) (by kernel_rfl) (by kernel_rfl) (fun _ _ _ h => h) (by rfl) ?hy28 ?rest28
            case hy28 => intro w; go_simp; (try with_reducible rfl)
            try simp only [Act.put, List.setIfInBounds_toArray, List.set_cons_zero, List.set_cons_succ]
            refine pureE (i := 8) (L := #[true, true, true, true, true, true, true, true, true, true, false, false]) (v := ?_) rfl (by rfl) (by kernel_rfl) (by kernel_rfl) (by kernel_rfl) (fun _ _ _ h => h) (by rfl) ?hy29 ?rest29
            case hy29 => intro w; go_simp; (try with_reducible rfl)
            try simp only [Act.put, List.setIfInBounds_toArray, List.set_cons_zero, List.set_cons_succ]
            obtain ⟨⟨z0, z1, z2, z3, z4, z5, z6, z7, z8, z9, z10, z11⟩, zf⟩ := MBox.cells hN
            obtain ⟨w9, hw9, hN9, hb9, hf9, l9, l9'⟩ := all_to hN S'
            refine stepK (i := 10) (L := #[true, true, true, true, true, true, true, true, true, true, true, false]) rfl (by rfl) (by kernel_rfl) (by rfl) (fun K hK => ?_)
            go_simp
            try rw [hw9]
            have k9 : Keeps wr w9 := fun p hp => (hf9 _ (by omega)).trans (kp_ p hp)
            have bb := hb9 _ _ b_ (by omega)
            refine hK _ _ ⟨fun _ _ => k9, ?_⟩
            clear hK K hw9 z0 z1 z2 z3 z4 z5 z6 z7 z8 z9 z10 z11 zf
            try simp only [Act.put, List.setIfInBounds_toArray, List.set_cons_zero, List.set_cons_succ]
            refine pureE (i := 11) (L := #[true, true, true, true, true, true, true, true, true, true, true, true]) (v := ?_) rfl (by rfl) (by kernel_rfl) (by kernel_rfl) (by kernel_rfl) (fun _ _ _ h => h) (by rfl) ?hy31 ?rest31
            case hy31 => intro w; go_simp; (try with_reducible rfl)
            try simp only [Act.put, List.setIfInBounds_toArray, List.set_cons_zero, List.set_cons_succ]
            refine doneE (by kernel_rfl) ?_ _
            have hS9 : MBox w9 wo.heap.size S := (k9 _ l5).trans hS1
            have hZ9 : MBox w9 w.heap.size ZM := (k9 _ (by omega)).trans hZ1
            have hb10 := hb.trans (bb.mono (by omega))
            have rr9 : MRows w9 wr.heap.size w9.heap.size S' := (rows_rng hRS' (w' := w9) (fun b h1 h2 => hf9 b (by omega))).more (by omega) (by omega)
            clear b_ bb kp_ hN hb9
            rcases hstep.out with ⟨hq0, hs0, hs1⟩ | ⟨hq0, hs0, hs1⟩
            · subst hq0
              have hI2 : Hid (IsM (fun x => (addD (R' x) (dnM d x)).1) S' ∧ MayR (fun x => (addD (R' x) (dnM d x)).1) ∧ foldM (fun x => (addD (R' x) (dnM d x)).1) (ms.drop (i + 1)) = foldM zR ms) := Lib.hid ⟨hIS.out.of_eq fun x hx => (hs1 x hx).symm, fun x _ => add_may .., by
                have e := hI.out.2.2
                rw [List.drop_eq_getElem_cons hi2, HD.out, foldM_cons, if_pos hs0] at e
                exact e⟩
              clear hs0 hs1 hstep
              obtain ⟨⟨z0, z1, z2, z3, z4, z5, z6, z7, z8, z9, z10, z11⟩, zf⟩ := MBox.cells hN9
              obtain ⟨⟨y0, y1, y2, y3, y4, y5, y6, y7, y8, y9, y10, y11⟩, yf⟩ := MBox.cells hS9
              obtain ⟨w11, hw11, hS11, hb11, hf11, l11, l11'⟩ := all_to hS9 S'
              go_wp2
              try rw [hw11]
              clear hw11 z0 z1 z2 z3 z4 z5 z6 z7 z8 z9 z10 z11 zf y0 y1 y2 y3 y4 y5 y6 y7 y8 y9 y10 y11 yf
              have hZ11 : MBox w11 w.heap.size ZM := (hf11 _ (by omega)).trans hZ9
              have hb12 := hb11 _ _ hb10 (by omega)
              have rr11 : MRows w11 (wo.heap.size + 1) w11.heap.size S' := (rows_rng rr9 (w' := w11) (fun b h1 h2 => hf11 b (by omega))).more (by omega) (by omega)
              go_roundw
              case rel => exact ⟨i + 1, S', _, by first | rfl | (congr 1; omega) | go_num, rfl, by omega, hS11, hZ11, hb12, by omega, rr11, hI2⟩
              case measure => first | (simp [intOf]; done) | (simp [intOf]; omega)
            · subst hq0
              have hcode : (zR, (10 : Int)) = (R, code) := by
                have e := hI.out.2.2
                rw [List.drop_eq_getElem_cons hi2, HD.out, foldM_cons, if_neg hs0] at e
                have e2 := H2.out
                rw [← e] at e2
                exact e2
              injection hcode with hR hcd
              subst hR hcd
              clear hs0 hs1 hstep
              obtain ⟨⟨z0, z1, z2, z3, z4, z5, z6, z7, z8, z9, z10, z11⟩, zf⟩ := MBox.cells hZ9
              go_wp2
              obtain ⟨U, M, hc, hMe, hX, hbU, hfU, s1_, s2_⟩ := zero_to hZ9
              try rw [hc]
              have hQ := hbU _ _ hb10 (Nat.le_refl _)
              clear hc z0 z1 z2 z3 z4 z5 z6 z7 z8 z9 z10 z11 zf
              obtain ⟨⟨k0, k1, k2, k3, k4, k5, k6, k7, k8, k9, k10, k11⟩, kf⟩ := MBox.cells hX
              refine bodyPost_ret (v := .tuple #[.agg #[.bool M.S.s, .slice M.S.A M.S.n M.S.c, .int .i64 M.S.e, .bool M.W.s, .slice M.W.A M.W.n M.W.c, .int .i64 M.W.e, .bool M.C.s, .slice M.C.A M.C.n M.C.c, .int .i64 M.C.e, .bool M.A.s, .slice M.A.A M.A.n M.A.c, .int .i64 M.A.e], .int .i64 10]) (by simp [results, Tryd.results31, go_sem, k0, k1, k2, k3, k4, k5, k6, k7, k8, k9, k10, k11]) rfl ⟨M, rfl, hQ, ?_, ?_⟩
              · rw [hMe]
                exact IsM.zero
              · rw [hMe]
                exact ZM_rows ..
        · skip
          have hin2 : ms.length ≤ i := by have := HL.out; omega
          have hcode : (R', (0 : Int)) = (R, code) := by
            have e := hI.out.2.2
            rw [List.drop_eq_nil_of_le hin2] at e
            have e2 := H2.out
            rw [← e] at e2
            exact e2
          injection hcode with hR hcd
          subst hR hcd
          have HI := Lib.hid hI.out.1
          clear hI hLr
          obtain ⟨⟨z0, z1, z2, z3, z4, z5, z6, z7, z8, z9, z10, z11⟩, zf⟩ := MBox.cells hZ1
          obtain ⟨⟨y0, y1, y2, y3, y4, y5, y6, y7, y8, y9, y10, y11⟩, yf⟩ := MBox.cells hS1
          obtain ⟨U, hwU, hX, hbU, hfU, lU, lU'⟩ := all_to hZ1 S
          go_wp2
          try rw [hwU]
          clear hwU z0 z1 z2 z3 z4 z5 z6 z7 z8 z9 z10 z11 zf y0 y1 y2 y3 y4 y5 y6 y7 y8 y9 y10 y11 yf
          have hQ := hbU _ _ hb (Nat.le_refl _)
          have rrU : MRows U w.heap.size U.heap.size S := (rows_rng hRS (w' := U) (fun b h1 h2 => hfU b (by omega))).more (by omega) (by omega)
          obtain ⟨⟨k0, k1, k2, k3, k4, k5, k6, k7, k8, k9, k10, k11⟩, kf⟩ := MBox.cells hX
          exact bodyPost_ret (v := .tuple #[.agg #[.bool S.S.s, .slice S.S.A S.S.n S.S.c, .int .i64 S.S.e, .bool S.W.s, .slice S.W.A S.W.n S.W.c, .int .i64 S.W.e, .bool S.C.s, .slice S.C.A S.C.n S.C.c, .int .i64 S.C.e, .bool S.A.s, .slice S.A.A S.A.n S.A.c, .int .i64 S.A.e], .int .i64 0]) (by simp [results, Tryd.results31, go_sem, k0, k1, k2, k3, k4, k5, k6, k7, k8, k9, k10, k11]) rfl ⟨S, rfl, hQ, HI.out, rrU⟩
end Ma
end Go.Proofs.YtlbkepiflhchdaaDoor
