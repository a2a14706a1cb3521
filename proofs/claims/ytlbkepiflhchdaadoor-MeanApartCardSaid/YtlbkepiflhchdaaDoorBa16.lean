/- Laws for MassTells: walks (printed by a program of mine). -/
/- Lists of copies: no program in sight but in the contracts joined (printed by a program of mine). -/
/- headcountlaw16.spoil: a walk. -/
/- The law MeanApart: a walk (printed by a program of mine). -/
/- What every statement's row asks beside its walk: arguments that read as data hold what our predicates say; behind the call they read as before. -/
/- Dyads among the arguments. -/
/- Masses among the arguments. -/
/- Lists of masses among the arguments. -/
import Derived.Test.YtlbkepiflhchdaaDoorBa15
import Derived.Test.YtlbkepiflhchdaaDoorBa11
import Derived.Test.YtlbkepiflhchdaaDoorBa10
import Derived.Test.YtlbkepiflhchdaaDoorBa06
import Derived.Test.YtlbkepiflhchdaaDoorBa01
import Derived.ProofKit
import Derived.Lib.SmallJoins
import Derived.Deep.SlicePairs
import Derived.Test.YtlbkepiflhchdaaDoorBa02
namespace Go.Proofs.YtlbkepiflhchdaaDoor
open Go.RowKit
namespace Ma
open Dp Dy
/-- The rows lie in neither of two blocks. -/
def RowsOff (_w : World) (g g' : Nat) (m : Mv) : Prop := ∀ x, x < 4 → 0 < (m.get x).n → ∀ b off, (m.get x).A = some ⟨b, off, none⟩ → b ≠ g ∧ b ≠ g'
theorem ints_off {w w' : World} {lo hi g g' j : Nat} {d : Dv} (h : Ints w lo hi .u32 d.A d.n d.xs) (ho : 0 < d.n → ∀ b off, d.A = some ⟨b, off, none⟩ → b ≠ g ∧ b ≠ g') (hf : ∀ k, k ≠ j → w'.heap[k]? = w.heap[k]?) (hj : j = g ∨ j = g') : Ints w' lo hi .u32 d.A d.n d.xs :=
  ⟨h.len, h.wf, h.big, fun h0 => by
    obtain ⟨b, off, e, h1, h2, hc⟩ := h.row h0
    obtain ⟨n1, n2⟩ := ho h0 b off e
    have h3 := hf b (by rcases hj with rfl | rfl; exact n1; exact n2)
    exact ⟨b, off, e, h1, h2, fun i hi => ⟨by rw [World.cell?_of_block h3]; exact (hc i hi).1, by rw [World.frozen?_of_block h3]; exact (hc i hi).2⟩⟩⟩
theorem RowsOff.far {w w' : World} {g g' lo hi j : Nat} {m : Mv} (ho : RowsOff w g g' m) (h : MRows w lo hi m) (hf : ∀ k, k ≠ j → w'.heap[k]? = w.heap[k]?) (hj : j = g ∨ j = g') : MRows w' lo hi m :=
  ⟨ints_off h.S (ho 0 (by decide)) hf hj, ints_off h.W (ho 1 (by decide)) hf hj, ints_off h.C (ho 2 (by decide)) hf hj, ints_off h.A (ho 3 (by decide)) hf hj⟩
theorem RowsOff.on {w w' : World} {g g' j : Nat} {m : Mv} (ho : RowsOff w g g' m) (_hf : ∀ k, k ≠ j → w'.heap[k]? = w.heap[k]?) (_hj : j = g ∨ j = g') : RowsOff w' g g' m := ho
/-- Rows in a range of blocks that are there. -/
structure RB (w : World) (lo hi : Nat) (m : Mv) : Prop where
  rows : MRows w lo hi m
  le : hi ≤ w.heap.size
theorem RB.on {w w' : World} {lo hi : Nat} {m : Mv} (h : RB w lo hi m) (hb : Below w.heap.size w w') : RB w' lo hi m := ⟨h.rows.below hb h.le, Nat.le_trans h.le hb.size⟩
theorem RB.all {w : World} {lo hi : Nat} {m : Mv} (h : RB w lo hi m) : MRows w 0 w.heap.size m := h.rows.more (Nat.zero_le _) h.le
structure TB (w : World) (lo hi lo' hi' : Nat) (m : Mv) : Prop where
  rows : TwoR w lo hi lo' hi' m
  le : hi ≤ w.heap.size
  le' : hi' ≤ w.heap.size
theorem TB.on {w w' : World} {lo hi lo' hi' : Nat} {m : Mv} (h : TB w lo hi lo' hi' m) (hb : Below w.heap.size w w') : TB w' lo hi lo' hi' m := ⟨h.rows.below hb h.le h.le', Nat.le_trans h.le hb.size, Nat.le_trans h.le' hb.size⟩
theorem TB.all {w : World} {lo hi lo' hi' : Nat} {m : Mv} (h : TB w lo hi lo' hi' m) : MRows w 0 w.heap.size m := h.rows.rows h.le h.le'
theorem twin_all {a u : Mv} (h : ∀ x, x < 4 → TwinV (a.get x) (u.get x)) (j : Nat) : TwinV (a.get j) (u.get j) := by
  have e : ∀ (m : Mv) (k : Nat), m.get (k + 4) = m.get 3 := fun _ _ => rfl
  by_cases hj : j < 4
  · exact h j hj
  · obtain ⟨k, rfl⟩ : ∃ k, j = k + 4 := ⟨j - 4, by omega⟩
    rw [e, e]
    exact h 3 (by decide)
theorem twin_may {a u : Mv} (h : ∀ x, x < 4 → TwinV (a.get x) (u.get x)) : u.may ↔ a.may := by
  have k : ∀ x, x < 4 → ((u.get x).may ↔ (a.get x).may) := fun x hx => by
    obtain ⟨h1, _, h3, h4, _⟩ := h x hx
    unfold Dv.may
    rw [h1, h3, h4]
  exact ⟨fun m x hx => (k x hx).1 (m x hx), fun m x hx => (k x hx).2 (m x hx)⟩
theorem twin_same {a u : Mv} (h : ∀ x, x < 4 → TwinV (a.get x) (u.get x)) : sameM u a = true := by
  unfold sameM
  have k : ∀ x, x < 4 → sameV (u.get x) (a.get x) = true := fun x hx => by
    unfold sameV
    rw [(h x hx).1, (h x hx).2.2.1, (h x hx).2.2.2.1]
    exact Pa.Dy.same_refl _
  have k0 := k 0 (by decide)
  have k1 := k 1 (by decide)
  have k2 := k 2 (by decide)
  have k3 := k 3 (by decide)
  simp only [Mv.get] at k0 k1 k2 k3
  rw [k0, k1, k2, k3]
  rfl
end Ma
end Go.Proofs.YtlbkepiflhchdaaDoor
namespace Go.Proofs.YtlbkepiflhchdaaDoor
open Go.RowKit
namespace Ma
open Dp Dy
/-- Copies, one by one. -/
def Twins : List Mv → List Mv → Prop
  | [], [] => True
  | a :: l, u :: k => (∀ x, x < 4 → TwinV (a.get x) (u.get x)) ∧ Twins l k
  | _, _ => False
theorem Twins.len : ∀ {l k : List Mv}, Twins l k → k.length = l.length
  | [], [], _ => rfl
  | _ :: _, _ :: _, h => by simp [Twins.len h.2]
  | [], _ :: _, h => h.elim
  | _ :: _, [], h => h.elim
theorem Twins.snoc : ∀ {l k : List Mv} {a u : Mv}, Twins l k → (∀ x, x < 4 → TwinV (a.get x) (u.get x)) → Twins (l ++ [a]) (k ++ [u])
  | [], [], _, _, _, h => ⟨h, trivial⟩
  | _ :: _, _ :: _, _, _, h, h' => ⟨h.1, Twins.snoc h.2 h'⟩
  | [], _ :: _, _, _, h, _ => h.elim
  | _ :: _, [], _, _, h, _ => h.elim
theorem Twins.get : ∀ {l k : List Mv}, Twins l k → ∀ (j : Nat) (h : j < l.length) (h' : j < k.length), ∀ x, x < 4 → TwinV (l[j].get x) (k[j].get x)
  | [], [], _, j, h, _ => absurd h (Nat.not_lt_zero _)
  | _ :: _, _ :: _, h, 0, _, _ => h.1
  | _ :: _, _ :: _, h, j + 1, h1, h2 => Twins.get h.2 j (by simpa using h1) (by simpa using h2)
  | [], _ :: _, h, _, _, _ => h.elim
  | _ :: _, [], h, _, _, _ => h.elim
theorem twins_dn {a u : Mv} (h : ∀ x, x < 4 → TwinV (a.get x) (u.get x)) : dnM u = dnM a := by
  funext j
  obtain ⟨g1, _, g3, g4, _⟩ := twin_all h j
  unfold dnM
  rw [g1, g3, g4]
theorem Twins.fold : ∀ {l k : List Mv}, Twins l k → ∀ R, foldM R k = foldM R l
  | [], [], _, _ => rfl
  | a :: l, u :: k, h, R => by
    rw [foldM_cons, foldM_cons, twins_dn h.1]
    by_cases hc : ∀ x, x < 4 → (addD (R x) (dnM a x)).2 = 0
    · rw [if_pos hc, if_pos hc]
      exact Twins.fold h.2 _
    · rw [if_neg hc, if_neg hc]
  | [], _ :: _, h, _ => h.elim
  | _ :: _, [], h, _ => h.elim
theorem Twins.bad : ∀ {l k : List Mv}, Twins l k → ((∃ m ∈ k, ¬ m.may) ↔ ∃ m ∈ l, ¬ m.may)
  | [], [], _ => by simp
  | a :: l, u :: k, h => by
    have ih := Twins.bad h.2
    have hm := twin_may h.1
    simp only [List.mem_cons, exists_eq_or_imp]
    rw [ih, hm]
  | [], _ :: _, h => h.elim
  | _ :: _, [], h => h.elim
theorem Twins.sum {l k : List Mv} (h : Twins l k) : sumM k = sumM l := by
  unfold sumM
  rw [h.len, h.fold]
  by_cases hl : 4096 < l.length
  · rw [if_pos hl, if_pos hl]
  · rw [if_neg hl, if_neg hl]
    by_cases hb : ∃ m ∈ l, ¬ m.may
    · rw [if_pos hb, if_pos (h.bad.2 hb)]
    · rw [if_neg hb, if_neg (fun k => hb (h.bad.1 k))]
theorem twins_take {ms os : List Mv} {i : Nat} (h : Twins (ms.take i) os) (hi : i < ms.length) {u : Mv} (hu : ∀ x, x < 4 → TwinV (ms[i].get x) (u.get x)) : Twins (ms.take (i + 1)) (os ++ [u]) := by
  have e : ms.take (i + 1) = ms.take i ++ [ms[i]] := by rw [List.take_add_one]; simp [hi]
  rw [e]
  exact h.snoc hu
end Ma
end Go.Proofs.YtlbkepiflhchdaaDoor
namespace Go.Proofs.YtlbkepiflhchdaaDoor
open Go.RowKit
namespace Ma
open Dp Dy
set_option maxHeartbeats 12800000 in
set_option maxRecDepth 100000 in
theorem spoil16_any (w : World) (m : Mv) (lo hi : Nat) (h : MRows w lo hi m) (hn : ∀ x, x < 4 → (m.get x).n ≤ 1000000) (hhi : hi ≤ w.heap.size) (hlo : lo ≤ w.heap.size) :
    Calls Tryd.prog 42 #[.agg #[.bool m.S.s, .slice m.S.A m.S.n m.S.c, .int .i64 m.S.e, .bool m.W.s, .slice m.W.A m.W.n m.W.c, .int .i64 m.W.e, .bool m.C.s, .slice m.C.A m.C.n m.C.c, .int .i64 m.C.e, .bool m.A.s, .slice m.A.A m.A.n m.A.c, .int .i64 m.A.e]] w fun e w' => e = .returned (.tuple #[]) ∧ Below lo w w' ∧ From hi w w' := by
  generalize hw : (w.alloc (.cells #[.bool m.S.s, .slice m.S.A m.S.n m.S.c, .int .i64 m.S.e, .bool m.W.s, .slice m.W.A m.W.n m.W.c, .int .i64 m.W.e, .bool m.C.s, .slice m.C.A m.C.n m.C.c, .int .i64 m.C.e, .bool m.A.s, .slice m.A.A m.A.n m.A.c, .int .i64 m.A.e] 39)).alloc (.cells #[.slice m.S.A m.S.n m.S.c, .slice m.W.A m.W.n m.W.c, .slice m.C.A m.C.n m.C.c, .slice m.A.A m.A.n m.A.c] 22) = w1
  obtain ⟨hM, hLB, hBL, lo1, hi1⟩ := boxes2 w _ _ hw
  replace hM : MBox w1 w.heap.size m := hM
  replace hLB : LBox w1 (w.heap.size + 1) m := hLB
  have b1 : Below lo w w1 := hBL.mono hlo
  have f1 : From hi w w1 := fun k _ h2 => hBL.block k h2
  have hW : WrM w1 lo hi m := WrM.of h fun b hb => hBL.block b (by omega)
  clear h hBL
  obtain ⟨⟨k0, k1, k2, k3, k4, k5, k6, k7, k8, k9, k10, k11⟩, kf⟩ := MBox.cells hM
  go_enter Tryd.func42, Tryd.ntmps42
  go_wp2
  clear k0 k1 k2 k3 k4 k5 k6 k7 k8 k9 k10 k11 kf hM
  try clear hw
  go_loopw [3, 4] (fun iv _ wr => ∃ i : Nat, iv = .int .i64 i ∧ i ≤ 4 ∧ LBox wr (w.heap.size + 1) m ∧ Below lo w wr ∧ From hi w wr ∧ WrM wr lo hi m) (fun iv _ _ => 4 - (intOf iv).toNat)
  case atStart => exact ⟨0, rfl, Nat.zero_le _, hLB, b1, f1, hW⟩
  case round =>
    clear hLB b1 f1 hW
    obtain ⟨i, rfl, hi4, hLB, b1, f1, hW⟩ := hrel
    by_cases hlt : i < 4
    · have hwi : IntKind.i64.wrap ((i : Int) + 1) = ((i + 1 : Nat) : Int) := by rw [IntKind.wrap_i64]; omega
      have hni := hn i hlt
      go_wp2
      obtain ⟨wo, rfl⟩ : ∃ wo : World, wo = wr := ⟨_, rfl⟩
      go_loopw [4] (fun kv wr => ∃ k : Nat, kv = .int .i64 k ∧ k ≤ (m.get i).n ∧ LBox wr (w.heap.size + 1) m ∧ Below lo w wr ∧ From hi w wr ∧ WrM wr lo hi m) (fun kv _ => (m.get i).n - (intOf kv).toNat)
      case atStart => exact ⟨0, rfl, Nat.zero_le _, hLB, b1, f1, hW⟩
      case round =>
        clear hLB b1 f1 hW
        obtain ⟨k, rfl, hk, hLB, b1, f1, hW⟩ := hrel
        have q0 := hLB.at_ hlt
        by_cases hkl : k < (m.get i).n
        · obtain ⟨b, off, hA, hb1, hb2, hWr⟩ := hW i hlt (by omega)
          obtain ⟨⟨u, q1⟩, q2⟩ := hWr k hkl
          have hwk : IntKind.i64.wrap ((k : Int) + 1) = ((k + 1 : Nat) : Int) := by rw [IntKind.wrap_i64]; omega
          rw [hA] at q0
          generalize hd : (m.get i).n = n at *
          generalize hc : (m.get i).c = c at *
          go_wp2
          go_roundw
          case rel => exact ⟨k + 1, by first | rfl | (congr 1; omega) | go_num, by omega, (Below.heap_setCell _ _ _ _ (by simp; omega)).trans hLB, b1.setCell hb1 _, f1.setCell hb2 _, hW.set_ _ _⟩
          case measure => first | (simp [intOf]; done) | (simp [intOf]; omega)
        · generalize hA : (m.get i).A = A at *
          generalize hd : (m.get i).n = n at *
          generalize hc : (m.get i).c = c at *
          go_wp2
          go_roundw
          case rel => exact ⟨i + 1, by first | rfl | (congr 1; omega) | go_num, by omega, hLB, b1, f1, hW⟩
          case measure => first | (simp [intOf]; done) | (simp [intOf]; omega)
    · go_wp2
      go_end0
      exact ⟨rfl, b1, f1⟩
end Ma
end Go.Proofs.YtlbkepiflhchdaaDoor
namespace Go.Proofs.YtlbkepiflhchdaaDoor
open Go.RowKit
namespace Ma
open Dp Dy
theorem Twins.col {l k : List Mv} (h : Twins l k) (x : Nat) : colM x k = colM x l := by
  induction l generalizing k with
  | nil => cases k with
    | nil => rfl
    | cons _ _ => exact h.elim
  | cons a l ih => cases k with
    | nil => exact h.elim
    | cons u k =>
      have e1 := ih h.2
      have e2 : dnM u = dnM a := twins_dn h.1
      simp only [colM, List.map_cons] at e1 ⊢
      rw [e1, e2]
theorem Twins.far {l k : List Mv} (h : Twins l k) : farM k = farM l := by
  have e1 : k = [] ↔ l = [] := by
    constructor
    · intro e
      exact List.eq_nil_of_length_eq_zero (by rw [← h.len, e]; rfl)
    · intro e
      exact List.eq_nil_of_length_eq_zero (by rw [h.len, e]; rfl)
  have e3 : (if k = [] then (6 : Int) else 10) = if l = [] then 6 else 10 := by
    by_cases hn : l = []
    · rw [if_pos hn, if_pos (e1.2 hn)]
    · rw [if_neg hn, if_neg (fun c => hn (e1.1 c))]
  unfold farM
  rw [h.len, h.col 2, h.col 3]
  by_cases hl : 4096 < l.length
  · rw [if_pos hl, if_pos hl]
  · rw [if_neg hl, if_neg hl]
    by_cases hb : ∃ m ∈ l, ¬ m.may
    · rw [if_pos hb, if_pos (h.bad.2 hb)]
    · rw [if_neg hb, if_neg (fun c => hb (h.bad.1 c)), e3]
theorem Is.big {r : Dn} {d : Dv} (h : Is r d) (hr : r.May) {w : World} {lo hi : Nat} (hI : Ints w lo hi .u32 d.A d.n d.xs) : d.n ≤ 1000000 := by
  rw [h.2.2] at hI
  exact canon_big hI hr
/-- A dyad alone in a mass. -/
def only (k : Nat) (d : Dv) : Mv := ⟨if k = 0 then d else ZDv, if k = 1 then d else ZDv, if k = 2 then d else ZDv, if k = 3 then d else ZDv⟩
theorem only_rows {w : World} {lo hi : Nat} {d : Dv} (k : Nat) (h : Ints w lo hi .u32 d.A d.n d.xs) : MRows w lo hi (only k d) := by
  refine ⟨?_, ?_, ?_, ?_⟩ <;> unfold only Dv.Row <;> simp only <;> split <;> first | exact h | exact Ints.nil_ ..
theorem only_n {d : Dv} (k : Nat) (h : d.n ≤ 1000000) : ∀ x, x < 4 → ((only k d).get x).n ≤ 1000000 := by
  intro x hx
  have h0 : ZDv.n ≤ 1000000 := by decide
  unfold only Mv.get
  split <;> simp only <;> split <;> assumption
set_option maxHeartbeats 51200000 in
set_option maxRecDepth 100000 in
theorem apart_walk (w : World) (A : Option Addr) (n c : Nat) (ms : List Mv) (hL : LMs w 0 w.heap.size A n ms) (hT : Tab w) :
    Calls Tryd.prog 9 #[.slice A n c] w (Yes w) := by
  have HL := Lib.hid hL.len
  have hbg := hL.big
  have g0 := hT.lt
  by_cases h40 : 40 < n
  · by_cases h4096 : n ≤ 4096
    · go_enter Tryd.func9, Tryd.ntmps9
      go_wp2
      go_ret
      exact ⟨rfl, Below.refl _ _⟩
    · go_enter Tryd.func9, Tryd.ntmps9
      go_wp2
      go_loopw [2, 3, 4] (fun rv ov iv wr => rv = .bool false ∧ iv = .int .i64 0 ∧ wr = w) (fun _ _ _ _ => 0)
      case atStart => exact ⟨rfl, rfl, rfl⟩
      case round =>
        obtain ⟨rfl, rfl, rfl⟩ := hrel
        have h0n : (0 : Int) < n := by omega
        go_wp2_with fail
        refine (Far_many wr A n c (by omega) Dn.zero Dn.zero 4 rfl rfl rfl).mono ?_
        rintro e w2 ⟨X, Y, rfl, hB, iX, iY, B1, lb1, lb2, RX, RY⟩
        clear iX iY RX RY lb1 lb2
        generalize hw3 : (w2.alloc (.cells #[.bool X.s, .slice X.A X.n X.c, .int .i64 X.e] 24)).alloc (.cells #[.bool Y.s, .slice Y.A Y.n Y.c, .int .i64 Y.e] 24) = w3
        obtain ⟨hMx, hMy, hB3, lo3, hi3⟩ := boxes2 w2 _ _ hw3
        have hb := hB.trans ((show Below w2.heap.size w2 w3 from hB3).mono hB.size)
        clear hB hB3 hMx hMy
        go_wp2
        try clear hw3
        go_ret
        exact ⟨rfl, hb⟩
  obtain ⟨i0, hi0, hz0, hz1, hz2⟩ := info_parts infoM
  obtain ⟨cc, aa, code, hfar⟩ : ∃ c a code, farM ms = ((c, a), code) := ⟨_, _, _, rfl⟩
  have hmy := farM_may ms
  rw [hfar] at hmy
  have HF := Lib.hid hfar
  have HMY := Lib.hid hmy
  clear hfar hmy
  go_enter Tryd.func9, Tryd.ntmps9
  go_wp2
  go_loopw [2, 3, 4] (fun rv ov iv ww => ∃ (i : Nat) (os : List Mv), iv = .int .i64 i ∧ rv = .bool false ∧ i ≤ n ∧ OwnM ww w.heap.size ov i os ∧ Below w.heap.size w ww ∧ Hid (Twins (ms.take i) os)) (fun _ _ iv _ => n - (intOf iv).toNat)
  case atStart => exact ⟨0, [], rfl, rfl, Nat.zero_le _, OwnM.nil_ _ _, Below.refl _ _, Lib.hid trivial⟩
  case round =>
    obtain ⟨i, os, rfl, rfl, hi1, hO, hb, hTw⟩ := hrel
    have hLr := hL.below hb (Nat.le_refl _)
    have lw := hb.size
    obtain ⟨Ao, co, rfl, hcap, hcm⟩ := hO.shape
    by_cases hlt : i < n
    · skip
      have hi2 : i < ms.length := by rw [HL.out]; exact hlt
      obtain ⟨b, off, hA, h1, h2, hc⟩ := hLr.row (by omega)
      have hci := hc i hi2
      have hri := hLr.rows i hi2
      obtain ⟨d, hd⟩ : ∃ d, ms[i] = d := ⟨_, rfl⟩
      rw [hd] at hci hri
      have HD := Lib.hid hd
      clear hd hc
      subst hA
      have hd2 : MRows wr 0 wr.heap.size d := hri.more (Nat.le_refl _) lw
      obtain ⟨g, hg⟩ : ∃ g, greatM d = g := ⟨_, rfl⟩
      have HG := Lib.hid hg
      have hciH := Lib.hid hci
      clear hg hri hLr
      obtain ⟨k0, k1, k2, k3, k4, k5, k6, k7, k8, k9, k10, k11⟩ := hci
      have hwr : IntKind.i64.wrap ((i : Int) + 1) = ((i + 1 : Nat) : Int) := by rw [IntKind.wrap_i64]; omega
      go_wp2_with fail
      refine (RGreat_any wr d hd2 g HG.out).mono ?_
      rintro e w2 ⟨rfl, hB⟩
      clear k0 k1 k2 k3 k4 k5 k6 k7 k8 k9 k10 k11
      have l2 := hB.size
      have hO2 := hO.on hB
      have hb2 := hb.trans (hB.mono lw)
      replace hd2 : MRows w2 0 w2.heap.size d := (hd2.below hB (Nat.le_refl _)).more (Nat.le_refl _) hB.size
      have hOlt2 : ∀ k, (Value.slice Ao i co).ownBlock = some k → k < w2.heap.size := fun k hk => (hO2.own.lt k hk).2
      replace hciH := Lib.hid (hciH.out.blk (hB.block b (by omega)))
      clear hB hO hb
      cases g
      rotate_left
      · go_wp2
        go_ret
        exact ⟨rfl, hb2⟩
      have hci := hciH.out
      clear hciH
      have hnb : ∀ x, x < 4 → (d.get x).n ≤ 1000000 := fun x hx => by
        have h1 := (great_not HG.out x hx).1
        have h2 := (hd2.get x).len
        omega
      obtain ⟨k0, k1, k2, k3, k4, k5, k6, k7, k8, k9, k10, k11⟩ := hci
      go_wp2_with fail
      refine (RTwinM_any w2 d hd2 hnb).mono ?_
      rintro e w3 ⟨u, rfl, htu, hB, Ru⟩
      clear k0 k1 k2 k3 k4 k5 k6 k7 k8 k9 k10 k11 hd2 hnb
      replace htu := Lib.hid htu
      have l3 := hB.size
      have hO3 := hO2.on hB
      have hb3 := hb2.trans (hB.mono (by omega))
      clear hB hO2 hb2
      generalize hw4 : w3.alloc (.cells #[.bool u.S.s, .slice u.S.A u.S.n u.S.c, .int .i64 u.S.e, .bool u.W.s, .slice u.W.A u.W.n u.W.c, .int .i64 u.W.e, .bool u.C.s, .slice u.C.A u.C.n u.C.c, .int .i64 u.C.e, .bool u.A.s, .slice u.A.A u.A.n u.A.c, .int .i64 u.A.e] 39) = w4
      have hB4 : Below w3.heap.size w3 w4 := by rw [← hw4]; exact (Below.refl _ _).alloc (Nat.le_refl _) _
      have hraw := raw_oneM w3 u hw4
      have l4 : w3.heap.size < w4.heap.size := by rw [← hw4]; simp
      have hO4 := hO3.on hB4
      have hb4 := hb3.trans (hB4.mono (by omega))
      have Ru4 : MRows w4 w2.heap.size w3.heap.size u := Ru.below hB4 (Nat.le_refl _)
      clear hO3 hb3 hB4 Ru
      go_wp2_with (first
        | (at_builtin; refine wpList_append_raw _ rfl (.tmp 40) (.tmp 46) 36 rfl w.heap.size 39 i0 _ 12 160 Tryd.underlying36 hi0 hz0 hz1 hz2 rfl (by decide) _ _ _ rfl hO4.own _ _ _ 1 1 (cells12 u) rfl hraw (cells12_one u) (by unfold maxLen; omega) (by omega) (by omega) ?_))
      intro A3 c3 w5 hown3 hg3 hob
      have hoff : u.off (Value.slice Ao i co).ownBlock := rows_off Ru4 fun k hk => .inl (hOlt2 k hk)
      have hO5 := hO4.push (Ru4.more (Nat.zero_le _) (by omega)) hoff hown3 hg3 hob
      have hb5 := hb4.grown hg3 (by omega) (fun q hq => (hO4.own.lt q hq).1)
      clear hO4 hb4 hown3 hg3 hob hoff hraw hOlt2
      have hTw2 : Hid (Twins (ms.take (i + 1)) (os ++ [u])) := Lib.hid (twins_take hTw.out hi2 (by rw [HD.out]; exact htu.out))
      try clear hw4
      go_wp2
      go_roundw
      case rel => exact ⟨i + 1, _, by first | rfl | (congr 1; omega) | go_num, rfl, by omega, hO5, hb5, hTw2⟩
      case measure => first | (simp [intOf]; done) | (simp [intOf]; omega)
    · skip
      have hin : i = n := by omega
      subst hin
      have hTw2 : Hid (Twins ms os) := Lib.hid (by have := hTw.out; rw [List.take_of_length_le (by rw [HL.out]; exact Nat.le_refl _)] at this; exact this)
      have HLo : Hid (os.length = i) := Lib.hid hO.len
      have hLo := hO.lms
      have tT := hT.below hb hT.lt
      clear hTw hO
      obtain ⟨w2, hw2e⟩ : ∃ W : World, W = wr := ⟨_, rfl⟩
      subst hw2e
      obtain ⟨B, hBe⟩ : ∃ B, B = w2.heap.size := ⟨_, rfl⟩
      have lB1 : B ≤ w2.heap.size := by omega
      have lB2 : w2.heap.size ≤ B := by omega
      rw [← hBe] at hLo
      clear hBe
      go_wp2_with fail
      refine (Far_num w2 Ao i co os (hLo.more (Nat.le_refl _) lB1) (by omega) tT cc aa code (hTw2.out.far.trans HF.out)).mono ?_
      rintro e w3 ⟨X, Y, rfl, hB, iX, iY, B1, lb1, lb2, RX, RY⟩
      replace iX := Lib.hid iX
      replace iY := Lib.hid iY
      have l3 := hB.size
      replace hLo := hLo.below hB lB1
      replace hLr := hLr.below hB lw
      replace hb := hb.trans (hB.mono lw)
      clear hB tT
      generalize hw4 : (w3.alloc (.cells #[.bool X.s, .slice X.A X.n X.c, .int .i64 X.e] 24)).alloc (.cells #[.bool Y.s, .slice Y.A Y.n Y.c, .int .i64 Y.e] 24) = w4
      obtain ⟨hMx, hMy, hB4, lo4, hi4⟩ := boxes2 w3 _ _ hw4
      replace hMx : DBox w4 w3.heap.size X := hMx
      replace hMy : DBox w4 (w3.heap.size + 1) Y := hMy
      replace hB4 : Below w3.heap.size w3 w4 := hB4
      replace hLo := hLo.below hB4 (by omega)
      replace hLr := hLr.below hB4 (by omega)
      replace hb := hb.trans (hB4.mono (by omega))
      obtain ⟨B2, hB2⟩ : ∃ B2, B2 = w3.heap.size := ⟨_, rfl⟩
      have lc1 : B2 ≤ w3.heap.size := by omega
      have lc2 : w3.heap.size ≤ B2 := by omega
      replace RX : Ints w4 w2.heap.size B1 .u32 X.A X.n X.xs := RX.below hB4 lb2
      replace RY : Ints w4 B1 B2 .u32 Y.A Y.n Y.xs := by rw [hB2]; exact RY.below hB4 (Nat.le_refl _)
      clear hB2
      clear hB4 hi4
      go_wp2_with fail
      try clear hw4
      refine (RFar_num w4 _ i c ms (hLr.more (Nat.le_refl _) (by omega)) (by omega) cc aa code HF.out).mono ?_
      rintro e w5 ⟨P, Q, rfl, hB, iP, iQ, RP, RQ⟩
      replace iP := Lib.hid iP
      replace iQ := Lib.hid iQ
      have l5 := hB.size
      replace hLo := hLo.below hB (by omega)
      replace hLr := hLr.below hB (by omega)
      replace hb := hb.trans (hB.mono (by omega))
      replace RX := RX.below hB (by omega)
      replace RY := RY.below hB (by omega)
      replace hMx : DBox w5 w3.heap.size X := (hB.block _ (by omega)).trans hMx
      replace hMy : DBox w5 (w3.heap.size + 1) Y := (hB.block _ (by omega)).trans hMy
      clear hB
      generalize hw6 : (w5.alloc (.cells #[.bool P.s, .slice P.A P.n P.c, .int .i64 P.e] 24)).alloc (.cells #[.bool Q.s, .slice Q.A Q.n Q.c, .int .i64 Q.e] 24) = w6
      obtain ⟨hMp, hMq, hB6, lo6, hi6⟩ := boxes2 w5 _ _ hw6
      replace hMp : DBox w6 w5.heap.size P := hMp
      replace hMq : DBox w6 (w5.heap.size + 1) Q := hMq
      replace hB6 : Below w5.heap.size w5 w6 := hB6
      replace hLo := hLo.below hB6 (by omega)
      replace hLr := hLr.below hB6 (by omega)
      replace hb := hb.trans (hB6.mono (by omega))
      replace RX := RX.below hB6 (by omega)
      replace RY := RY.below hB6 (by omega)
      replace RP : Ints w6 w4.heap.size w5.heap.size .u32 P.A P.n P.xs := RP.below hB6 (Nat.le_refl _)
      replace RQ : Ints w6 w4.heap.size w5.heap.size .u32 Q.A Q.n Q.xs := RQ.below hB6 (Nat.le_refl _)
      replace hMx : DBox w6 w3.heap.size X := (hB6.block _ (by omega)).trans hMx
      replace hMy : DBox w6 (w3.heap.size + 1) Y := (hB6.block _ (by omega)).trans hMy
      clear hB6 hi6
      obtain ⟨⟨x0, x1, x2⟩, x3, x4, x5⟩ := boxD hMx
      obtain ⟨⟨p0, p1, p2⟩, p3, p4, p5⟩ := boxD hMp
      go_wp2_with fail
      try clear hw6
      refine (Pa.rSame_any w6 X.s P.s X.A P.A X.n X.c P.n P.c X.xs P.xs X.e P.e (RX.more (Nat.zero_le _) (by omega)) (RP.more (Nat.zero_le _) (by omega)) true (iX.out.same iP.out)).mono ?_
      rintro e w7 ⟨rfl, hB⟩
      clear x0 x1 x2 x3 x4 x5 p0 p1 p2 p3 p4 p5 hMp RP iP
      have l7 := hB.size
      replace hLo := hLo.below hB (by omega)
      replace hLr := hLr.below hB (by omega)
      replace hb := hb.trans (hB.mono (by omega))
      replace RX := RX.below hB (by omega)
      replace RY := RY.below hB (by omega)
      replace RQ := RQ.below hB (by omega)
      replace hMx : DBox w7 w3.heap.size X := (hB.block _ (by omega)).trans hMx
      replace hMy : DBox w7 (w3.heap.size + 1) Y := (hB.block _ (by omega)).trans hMy
      replace hMq : DBox w7 (w5.heap.size + 1) Q := (hB.block _ (by omega)).trans hMq
      clear hB
      obtain ⟨⟨x0, x1, x2⟩, x3, x4, x5⟩ := boxD hMy
      obtain ⟨⟨p0, p1, p2⟩, p3, p4, p5⟩ := boxD hMq
      go_wp2_with fail
      refine (Pa.rSame_any w7 Y.s Q.s Y.A Q.A Y.n Y.c Q.n Q.c Y.xs Q.xs Y.e Q.e (RY.more (Nat.zero_le _) (by omega)) (RQ.more (Nat.zero_le _) (by omega)) true (iY.out.same iQ.out)).mono ?_
      rintro e w8 ⟨rfl, hB⟩
      clear x0 x1 x2 x3 x4 x5 p0 p1 p2 p3 p4 p5
      have l8 := hB.size
      replace hLo := hLo.below hB (by omega)
      replace hLr := hLr.below hB (by omega)
      replace hb := hb.trans (hB.mono (by omega))
      replace RX := RX.below hB (by omega)
      replace RY := RY.below hB (by omega)
      replace RQ := RQ.below hB (by omega)
      replace hMx : DBox w8 w3.heap.size X := (hB.block _ (by omega)).trans hMx
      replace hMy : DBox w8 (w3.heap.size + 1) Y := (hB.block _ (by omega)).trans hMy
      replace hMq : DBox w8 (w5.heap.size + 1) Q := (hB.block _ (by omega)).trans hMq
      clear hB
      obtain ⟨⟨x0, x1, x2⟩, x3, x4, x5⟩ := boxD hMx
      have hnX := iX.out.big HMY.out.1 RX
      have heq : ((code : Int) == code) = true := by simp
      go_wp2_with fail
      refine (spoil16_any w8 (only 2 X) w2.heap.size B1 (only_rows 2 RX) (only_n 2 hnX) (by omega) (by omega)).mono ?_
      rintro e w9 ⟨rfl, hB, hF⟩
      clear x0 x1 x2 x3 x4 x5 hMx RX iX hnX
      have l9 := hB.size
      replace hLo := hLo.below hB lB1
      replace hLr := hLr.below hB (by omega)
      replace hb := hb.trans (hB.mono (by omega))
      replace RY := ints_spoilt RY hB hF (by omega) (by omega)
      replace RQ := ints_spoilt RQ hB hF (by omega) (by omega)
      replace hMy : DBox w9 (w3.heap.size + 1) Y := box_spoilt hMy hB hF (by omega)
      replace hMq : DBox w9 (w5.heap.size + 1) Q := box_spoilt hMq hB hF (by omega)
      clear hB hF
      obtain ⟨⟨x0, x1, x2⟩, x3, x4, x5⟩ := boxD hMy
      obtain ⟨⟨p0, p1, p2⟩, p3, p4, p5⟩ := boxD hMq
      go_wp2_with fail
      refine (Pa.rSame_any w9 Y.s Q.s Y.A Q.A Y.n Y.c Q.n Q.c Y.xs Q.xs Y.e Q.e (RY.more (Nat.zero_le _) (by omega)) (RQ.more (Nat.zero_le _) (by omega)) true (iY.out.same iQ.out)).mono ?_
      rintro e v1 ⟨rfl, hB⟩
      clear x0 x1 x2 x3 x4 x5 p0 p1 p2 p3 p4 p5 hMq RQ iQ
      have lv1 := hB.size
      replace hLo := hLo.below hB (by omega)
      replace hLr := hLr.below hB (by omega)
      replace hb := hb.trans (hB.mono (by omega))
      replace RY := RY.below hB (by omega)
      replace hMy : DBox v1 (w3.heap.size + 1) Y := (hB.block _ (by omega)).trans hMy
      clear hB
      obtain ⟨⟨x0, x1, x2⟩, x3, x4, x5⟩ := boxD hMy
      have hnY := iY.out.big HMY.out.2 RY
      go_wp2_with fail
      refine (spoil16_any v1 (only 3 Y) B1 B2 (only_rows 3 RY) (only_n 3 hnY) (by omega) (by omega)).mono ?_
      rintro e w8' ⟨rfl, hB, _⟩
      clear x0 x1 x2 x3 x4 x5 hMy RY iY hnY
      have lv2 := hB.size
      replace hLo := hLo.below hB (by omega)
      replace hLr := hLr.below hB (by omega)
      replace hb := hb.trans (hB.mono (by omega))
      clear hB
      obtain ⟨w8, hw8e⟩ : ∃ W : World, W = w8' := ⟨_, rfl⟩
      subst hw8e
      go_wp2
      go_loopw [2, 15] (fun ev iv ww => ∃ j : Nat, iv = .int .i64 j ∧ ev = .bool false ∧ j ≤ i ∧ Below w8.heap.size w8 ww) (fun _ iv _ => i - (intOf iv).toNat)
      case atStart => exact ⟨0, rfl, rfl, Nat.zero_le _, Below.refl _ _⟩
      case round =>
        obtain ⟨j, rfl, rfl, hj1, hbw⟩ := hrel
        have lw8 := hbw.size
        have hLow := hLo.below hbw (by omega)
        have hLrw := hLr.below hbw (by omega)
        have hb9 := hb.trans (hbw.mono (by omega))
        by_cases hlt : j < i
        · skip
          have hi2p : j < ms.length := by rw [HL.out]; exact hlt
          obtain ⟨bp, offp, hAp, h1p, h2p, hcp⟩ := hLrw.row (by omega)
          have hcip := hcp j hi2p
          have hrip := hLrw.rows j hi2p
          obtain ⟨dp, hdp⟩ : ∃ d, ms[j] = d := ⟨_, rfl⟩
          rw [hdp] at hcip hrip
          have HDp := Lib.hid hdp
          clear hdp hcp
          subst hAp
          have hi2q : j < os.length := by rw [HLo.out]; exact hlt
          obtain ⟨bq, offq, hAq, h1q, h2q, hcq⟩ := hLow.row (by omega)
          have hciq := hcq j hi2q
          have hriq := hLow.rows j hi2q
          obtain ⟨dq, hdq⟩ : ∃ d, os[j] = d := ⟨_, rfl⟩
          rw [hdq] at hciq hriq
          have HDq := Lib.hid hdq
          clear hdq hcq
          subst hAq
          have hsm : sameM dq dp = true := by
            have := twin_same (hTw2.out.get j hi2p hi2q)
            rw [HDp.out, HDq.out] at this
            exact this
          have HSM := Lib.hid hsm
          have hwr : IntKind.i64.wrap ((j : Int) + 1) = ((j + 1 : Nat) : Int) := by rw [IntKind.wrap_i64]; omega
          have lbp : bp < wr.heap.size := by omega
          have lbq : bq < wr.heap.size := by omega
          clear hLow hLrw hsm
          go_wp2_with fail
          refine region_E (Keeps wr) [] (m := 10) (L := #[false, false, false, false, false, false, false, false, false, false]) (by kernel_rfl) (by rfl) (by rfl) ?_
          have kp_ : Keeps wr wr.drew := fun _ _ => rfl
          have rp2 : MRows wr.drew 0 wr.drew.heap.size dp := (rows_rng hrip (w' := wr.drew) (fun _ _ _ => rfl)).more (Nat.le_refl _) (by show _ ≤ wr.heap.size; omega)
          have rq2 : MRows wr.drew 0 wr.drew.heap.size dq := (rows_rng hriq (w' := wr.drew) (fun _ _ _ => rfl)).more (Nat.le_refl _) (by show _ ≤ wr.heap.size; omega)
          have b_ : Below wr.heap.size wr wr.drew := (Below.refl _ _).drew
          have l9 : wr.heap.size ≤ wr.drew.heap.size := Nat.le_refl _
          clear hrip hriq
          generalize wr.drew = w9 at *
          refine pureE (i := 0) (L := #[true, false, false, false, false, false, false, false, false, false]) (v := ?_) rfl (by rfl) (by kernel_rfl) (by kernel_rfl) (by kernel_rfl) (fun _ _ _ h => h) (by rfl) ?hy1 ?rest1
          case hy1 => intro w; go_simp; (try with_reducible rfl)
          try simp only [Act.put, List.setIfInBounds_toArray, List.set_cons_zero, List.set_cons_succ]
          refine pureE (i := 1) (L := #[true, true, false, false, false, false, false, false, false, false]) (v := ?_) rfl (by rfl) (by kernel_rfl) (by kernel_rfl) (by kernel_rfl) (fun _ _ _ h => h) (by rfl) ?hy2 ?rest2
          case hy2 => intro w; go_simp; (try with_reducible rfl)
          try simp only [Act.put, List.setIfInBounds_toArray, List.set_cons_zero, List.set_cons_succ]
          refine pureE (i := 2) (L := #[true, true, true, false, false, false, false, false, false, false]) (v := ?_) rfl (by rfl) (by kernel_rfl) (by kernel_rfl) (by kernel_rfl) (fun _ _ _ h => h) (by rfl) ?hy3 ?rest3
          case hy3 => intro w; go_simp; (try with_reducible rfl)
          try simp only [Act.put, List.setIfInBounds_toArray, List.set_cons_zero, List.set_cons_succ]
          refine readE (i := 3) (L := #[true, true, true, true, false, false, false, false, false, false]) (v := .agg #[.bool dq.S.s, .slice dq.S.A dq.S.n dq.S.c, .int .i64 dq.S.e, .bool dq.W.s, .slice dq.W.A dq.W.n dq.W.c, .int .i64 dq.W.e, .bool dq.C.s, .slice dq.C.A dq.C.n dq.C.c, .int .i64 dq.C.e, .bool dq.A.s, .slice dq.A.A dq.A.n dq.A.c, .int .i64 dq.A.e]) rfl (by rfl) (by kernel_rfl) (by kernel_rfl) (by kernel_rfl) (fun _ _ _ h => h) (by assumption) (by rfl) ?ya_1_ ?za_1_
          case ya_1_ =>
            intro w' h1
            obtain ⟨k0, k1, k2, k3, k4, k5, k6, k7, k8, k9, k10, k11⟩ := hciq.blk (h1 _ lbq)
            go_simp
          try simp only [Act.put, List.setIfInBounds_toArray, List.set_cons_zero, List.set_cons_succ]
          refine pureE (i := 4) (L := #[true, true, true, true, true, false, false, false, false, false]) (v := ?_) rfl (by rfl) (by kernel_rfl) (by kernel_rfl) (by kernel_rfl) (fun _ _ _ h => h) (by rfl) ?hy5 ?rest5
          case hy5 => intro w; go_simp; (try with_reducible rfl)
          try simp only [Act.put, List.setIfInBounds_toArray, List.set_cons_zero, List.set_cons_succ]
          refine pureE (i := 5) (L := #[true, true, true, true, true, true, false, false, false, false]) (v := ?_) rfl (by rfl) (by kernel_rfl) (by kernel_rfl) (by kernel_rfl) (fun _ _ _ h => h) (by rfl) ?hy6 ?rest6
          case hy6 => intro w; go_simp; (try with_reducible rfl)
          try simp only [Act.put, List.setIfInBounds_toArray, List.set_cons_zero, List.set_cons_succ]
          refine pureE (i := 6) (L := #[true, true, true, true, true, true, true, false, false, false]) (v := ?_) rfl (by rfl) (by kernel_rfl) (by kernel_rfl) (by kernel_rfl) (fun _ _ _ h => h) (by rfl) ?hy7 ?rest7
          case hy7 => intro w; go_simp; (try with_reducible rfl)
          try simp only [Act.put, List.setIfInBounds_toArray, List.set_cons_zero, List.set_cons_succ]
          refine readE (i := 7) (L := #[true, true, true, true, true, true, true, true, false, false]) (v := .agg #[.bool dp.S.s, .slice dp.S.A dp.S.n dp.S.c, .int .i64 dp.S.e, .bool dp.W.s, .slice dp.W.A dp.W.n dp.W.c, .int .i64 dp.W.e, .bool dp.C.s, .slice dp.C.A dp.C.n dp.C.c, .int .i64 dp.C.e, .bool dp.A.s, .slice dp.A.A dp.A.n dp.A.c, .int .i64 dp.A.e]) rfl (by rfl) (by kernel_rfl) (by kernel_rfl) (by kernel_rfl) (fun _ _ _ h => h) (by assumption) (by rfl) ?yb_1_ ?zb_1_
          case yb_1_ =>
            intro w' h1
            obtain ⟨k0, k1, k2, k3, k4, k5, k6, k7, k8, k9, k10, k11⟩ := hcip.blk (h1 _ lbp)
            go_simp
          try simp only [Act.put, List.setIfInBounds_toArray, List.set_cons_zero, List.set_cons_succ]
          refine stepK (i := 8) (L := #[true, true, true, true, true, true, true, true, true, false]) rfl (by rfl) (by kernel_rfl) (by rfl) (fun K hK => ?_)
          go_simp
          go_at_call 32
          refine (RSame_any w9 dq dp rq2 rp2 true HSM.out).mono ?_
          rintro e' w10 ⟨rfl, hB⟩
          replace kp_ := Keeps.on kp_ l9 hB
          replace b_ := b_.trans (hB.mono l9)
          clear hB rq2 rp2
          refine hK _ _ ⟨fun _ _ => kp_, ?_⟩
          clear hK K
          try simp only [Act.put, List.setIfInBounds_toArray, List.set_cons_zero, List.set_cons_succ]
          refine pureE (i := 9) (L := #[true, true, true, true, true, true, true, true, true, true]) (v := ?_) rfl (by rfl) (by kernel_rfl) (by kernel_rfl) (by kernel_rfl) (fun _ _ _ h => h) (by rfl) ?hy10 ?rest10
          case hy10 => intro w; go_simp; (try with_reducible rfl)
          try simp only [Act.put, List.setIfInBounds_toArray, List.set_cons_zero, List.set_cons_succ]
          refine doneE (by kernel_rfl) ?_ _
          have hbw2 := hbw.trans (b_.mono lw8)
          clear b_ kp_
          go_wp2
          go_roundw
          case rel => exact ⟨j + 1, by first | rfl | (congr 1; omega) | go_num, rfl, by omega, hbw2⟩
          case measure => first | (simp [intOf]; done) | (simp [intOf]; omega)
        · skip
          go_wp2
          go_ret
          exact ⟨rfl, hb9⟩
end Ma
end Go.Proofs.YtlbkepiflhchdaaDoor
namespace Go.Proofs.YtlbkepiflhchdaaDoor
open Go.ChangeShapes Go.WideShapes Go.ChangeAt Go.RowKit
section
variable {H : Type} {enc : TypeId × Value → H} {P : Program} {W W' : World}
theorem trodAll_below (hl : laidOutB P = true) (hb : Below W.heap.size W W') : ∀ (ts : List TypeId) (vs : List Value) (ds : List (DataW H)) (ps : List MemPlace),
    DataW.TrodAll enc P W 0 (fun _ => true) true ts vs ds ps → (∀ t ∈ ts, P.readableRec t = true ∧ t < P.types.size) → (∀ x ∈ ps, x.block < W.heap.size) →
    DataW.TrodAll enc P W' 0 (fun b => decide (b < W.heap.size)) true ts vs ds ps
  | [], vs, ds, ps, h, _, _ => by
    obtain ⟨rfl, rfl, rfl⟩ := trodAll_nil h
    exact rfl
  | t :: ts, vs, ds, ps, h, hr, hlt => by
    obtain ⟨v, vs', d, ds', p, q, rfl, rfl, rfl, h1, h2⟩ := trodAll_cons h
    obtain ⟨r1, r2⟩ := hr t (List.mem_cons_self ..)
    exact ⟨p, q, Below.trod hl r1 r2 h1 hb fun x hx => hlt x (List.mem_append_left _ hx), trodAll_below hl hb ts vs' ds' q h2 (fun t ht => hr t (List.mem_cons_of_mem _ ht)) fun x hx => hlt x (List.mem_append_right _ hx), rfl⟩
/-- A law that answers true and leaves what was there as it was. -/
theorem law_post {f : Func} {s : ChangeSpec} {args : Array Value} {ds gs : List (DataW H)} {before : List MemPlace} (hW : DataW.Whole enc P f.params.toList s.vars false W args.toList ds gs before)
    (hv : s.vars = []) (hl : laidOutB P = true) (hr : f.params.toList.all (fun t => P.readableRec t && decide (t < P.types.size)) = true) {tb : TypeId} (hres : f.resultTypes = #[tb]) (htb : P.underlying tb = some .bool)
    (h1 : (s.fn H (ds ++ gs)).results = [.lit (.bool true)]) (h2 : (s.fn H (ds ++ gs)).args = ds) (h3 : (s.fn H (ds ++ gs)).vars = []) (hb : Below W.heap.size W W') : s.post enc P f false true false false W args (.bool true) W' := by
  have hW' := hW
  obtain ⟨p, q, hA, hV, rfl, hfz, hnd⟩ := hW
  have hr' : ∀ t ∈ f.params.toList, P.readableRec t = true ∧ t < P.types.size := fun t ht => by
    have := List.all_eq_true.1 hr t ht
    simpa using this
  refine ⟨ds, gs, _, [], p, [], hW', ?_, ?_, ?_, hb.frame _, fun h => by cases h⟩
  · rw [h1, hres]
    exact trodAll_mk1 (shut_bool htb true)
  · rw [h2]
    exact trodAll_below hl hb _ _ _ _ hA hr' fun x hx => hW'.lt x (List.mem_append_left _ hx)
  · rw [h3, hv]
    rfl
end
end Go.Proofs.YtlbkepiflhchdaaDoor
namespace Go.Proofs.YtlbkepiflhchdaaDoor
open Go.ChangeShapes Go.WideShapes Go.ChangeAt Go.RowKit Go.Joins Go.Deep
section
variable {H : Type} {enc : TypeId × Value → H} {P : Program} {W W' : World}
theorem ints_trod {t e : TypeId} {k : IntKind} {fuel : Nat} {v : Value} {x : DataW H × List MemPlace} (ht : P.underlying t = some (.slice e)) (he : P.underlying e = some (.int k)) (hc : P.cellsOf e = 1)
    (h : DataW.trod enc P W 0 (fun _ => true) true fuel t [v] = some x) (hfz : ∀ b off, MemPlace.cell b off ∈ x.2 → W.frozen? ⟨b, off, none⟩ = false) (hlt : ∀ q ∈ x.2, q.block < W.heap.size) :
    ∃ A n c xs, v = .slice A n c ∧ n ≤ c ∧ Ints W 0 W.heap.size k A n xs := by
  rcases open_ints ht he hc h with ⟨hcs, hx⟩ | ⟨a, len, cap, zs, hcs, _, hl, hm, hz, hx, hcell, hwz⟩
  · injection hcs with hcs
    exact ⟨none, 0, 0, [], hcs, Nat.le_refl _, Ints.nil_ ..⟩
  · injection hcs with hcs
    simp only [if_true] at hz
    refine ⟨some a, len, cap, zs.take len, hcs, hl, by simp; omega, fun y hy => ?_, by unfold maxLen at hm; omega, fun h0 => ?_⟩
    · have := hwz y (List.mem_of_mem_take hy)
      simpa [Lit.wf] using this
    · obtain ⟨b, off, spot⟩ := a
      have hspot : spot = none := by simpa [Addr.add] using World.cell?_spot (hcell 0 (by omega))
      subst hspot
      have hmem : ∀ j, j < len → MemPlace.cell b (off + j) ∈ x.2 := fun j hj => by
        rw [hx]
        exact MemPlace.mem_row.2 ⟨j, by omega, rfl⟩
      refine ⟨b, off, rfl, Nat.zero_le _, hlt _ (hmem 0 h0), fun j hj => ⟨?_, hfz _ _ (hmem j hj)⟩⟩
      have := hcell j (by omega)
      rw [add_plain] at this
      rw [this, List.getElem?_take, if_pos hj]
      simp [List.getD]
end
end Go.Proofs.YtlbkepiflhchdaaDoor
namespace Go.Proofs.YtlbkepiflhchdaaDoor
open Go.ChangeShapes Go.WideShapes Go.ChangeAt Go.RowKit Go.Joins Go.Deep
section
variable {H : Type} {enc : TypeId × Value → H} {P : Program} {W W' : World}
theorem dv_trod {td e : TypeId} {k0 k1 k2 : Field} {fuel : Nat} {c0 c1 c2 : Value} {x : DataW H × List MemPlace} (hs : P.underlying td = some (.struct #[k0, k1, k2])) (hone : oneCellFields P #[k0, k1, k2] = true)
    (v0 : P.underlying k0.type = some .bool) (ht : P.underlying k1.type = some (.slice e)) (he : P.underlying e = some (.int .u32)) (hc : P.cellsOf e = 1) (v2 : P.underlying k2.type = some (.int .i64))
    (h : DataW.trod enc P W 0 (fun _ => true) true fuel td [c0, c1, c2] = some x) (hfz : ∀ b off, MemPlace.cell b off ∈ x.2 → W.frozen? ⟨b, off, none⟩ = false) (hlt : ∀ q ∈ x.2, q.block < W.heap.size) :
    ∃ d : Ma.Dv, c0 = .bool d.s ∧ c1 = .slice d.A d.n d.c ∧ c2 = .int .i64 d.e ∧ d.n ≤ d.c ∧ d.Row W 0 W.heap.size := by
  obtain ⟨y0, y1, y2, n, hx, _, h0, h1, h2⟩ := trod_struct3 hs h
  obtain ⟨o0, q0⟩ := hone_of hone 0 k0 rfl
  obtain ⟨o1, q1⟩ := hone_of hone 1 k1 rfl
  obtain ⟨o2, q2⟩ := hone_of hone 2 k2 rfl
  simp only [o0, q0, o1, q1, o2, q2, List.drop_zero, List.take_succ_cons, List.take_zero, List.drop_succ_cons] at h0 h1 h2
  obtain ⟨s, e0, _⟩ := DataW.trod_bool v0 h0
  obtain ⟨z, e2, _, z2⟩ := DataW.trod_int v2 h2
  injection e0 with e0
  injection e2 with e2
  have hx2 : x.2 = y0.2 ++ (y1.2 ++ y2.2) := by rw [hx]
  obtain ⟨A, n', c, xs, e1, hc', hI⟩ := ints_trod ht he hc h1 (fun b off hm => hfz b off (by simp [hx2, hm])) (fun q hq => hlt q (by simp [hx2, hq]))
  exact ⟨⟨s, A, n', c, z, xs⟩, e0, e1, e2, hc', hI⟩
end
end Go.Proofs.YtlbkepiflhchdaaDoor
namespace Go.Proofs.YtlbkepiflhchdaaDoor
open Go.ChangeShapes Go.WideShapes Go.ChangeAt Go.RowKit Go.Joins Go.Deep
section
variable {H : Type} {enc : TypeId × Value → H} {P : Program} {W W' : World}
theorem mass_trod {t td e : TypeId} {f0 f1 f2 f3 k0 k1 k2 : Field} {fuel : Nat} {cs : List Value} {x : DataW H × List MemPlace} (hs : P.underlying t = some (.struct #[f0, f1, f2, f3]))
    (hoff : (f0.offset, f1.offset, f2.offset, f3.offset) = (0, 3, 6, 9)) (hty : (f0.type, f1.type, f2.type, f3.type) = (td, td, td, td)) (hC : P.cellsOf t = 12)
    (hd : P.underlying td = some (.struct #[k0, k1, k2])) (hone : oneCellFields P #[k0, k1, k2] = true) (hC3 : P.cellsOf td = 3)
    (v0 : P.underlying k0.type = some .bool) (ht : P.underlying k1.type = some (.slice e)) (he : P.underlying e = some (.int .u32)) (hc : P.cellsOf e = 1) (v2 : P.underlying k2.type = some (.int .i64))
    (h : DataW.trod enc P W 0 (fun _ => true) true fuel t cs = some x) (hfz : ∀ b off, MemPlace.cell b off ∈ x.2 → W.frozen? ⟨b, off, none⟩ = false) (hlt : ∀ q ∈ x.2, q.block < W.heap.size) :
    ∃ m : Ma.Mv, cs = [.bool m.S.s, .slice m.S.A m.S.n m.S.c, .int .i64 m.S.e, .bool m.W.s, .slice m.W.A m.W.n m.W.c, .int .i64 m.W.e, .bool m.C.s, .slice m.C.A m.C.n m.C.c, .int .i64 m.C.e, .bool m.A.s, .slice m.A.A m.A.n m.A.c, .int .i64 m.A.e] ∧
      Ma.MRows W 0 W.heap.size m := by
  simp only [Prod.mk.injEq] at hoff hty
  obtain ⟨a0, a1, a2, a3⟩ := hoff
  obtain ⟨t0, t1, t2, t3⟩ := hty
  obtain ⟨y0, y1, y2, y3, n, hx, hl, h0, h1, h2, h3⟩ := trod_struct4 hs h
  match cs, hl.trans hC with
  | [c0, c1, c2, c3, c4, c5, c6, c7, c8, c9, c10, c11], _ =>
    have hx2 : x.2 = y0.2 ++ (y1.2 ++ (y2.2 ++ y3.2)) := by rw [hx]
    simp only [a0, a1, a2, a3, t0, t1, t2, t3, hC3, List.drop_zero, List.take_succ_cons, List.take_zero, List.drop_succ_cons] at h0 h1 h2 h3
    obtain ⟨d0, rfl, rfl, rfl, _, r0⟩ := dv_trod hd hone v0 ht he hc v2 h0 (fun b off hm => hfz b off (by simp [hx2, hm])) (fun q hq => hlt q (by simp [hx2, hq]))
    obtain ⟨d1, rfl, rfl, rfl, _, r1⟩ := dv_trod hd hone v0 ht he hc v2 h1 (fun b off hm => hfz b off (by simp [hx2, hm])) (fun q hq => hlt q (by simp [hx2, hq]))
    obtain ⟨d2, rfl, rfl, rfl, _, r2⟩ := dv_trod hd hone v0 ht he hc v2 h2 (fun b off hm => hfz b off (by simp [hx2, hm])) (fun q hq => hlt q (by simp [hx2, hq]))
    obtain ⟨d3, rfl, rfl, rfl, _, r3⟩ := dv_trod hd hone v0 ht he hc v2 h3 (fun b off hm => hfz b off (by simp [hx2, hm])) (fun q hq => hlt q (by simp [hx2, hq]))
    exact ⟨⟨d0, d1, d2, d3⟩, rfl, ⟨r0, r1, r2, r3⟩⟩
instance : Inhabited Ma.Mv := ⟨⟨⟨false, none, 0, 0, 0, []⟩, ⟨false, none, 0, 0, 0, []⟩, ⟨false, none, 0, 0, 0, []⟩, ⟨false, none, 0, 0, 0, []⟩⟩⟩
/-- A list of masses that reads as data. -/
theorem masses_trod {T t td e : TypeId} {f0 f1 f2 f3 k0 k1 k2 : Field} {fuel : Nat} {v : Value} {x : DataW H × List MemPlace} (hT : P.underlying T = some (.slice t)) (hs : P.underlying t = some (.struct #[f0, f1, f2, f3]))
    (hoff : (f0.offset, f1.offset, f2.offset, f3.offset) = (0, 3, 6, 9)) (hty : (f0.type, f1.type, f2.type, f3.type) = (td, td, td, td)) (hC : P.cellsOf t = 12)
    (hd : P.underlying td = some (.struct #[k0, k1, k2])) (hone : oneCellFields P #[k0, k1, k2] = true) (hC3 : P.cellsOf td = 3)
    (v0 : P.underlying k0.type = some .bool) (ht : P.underlying k1.type = some (.slice e)) (he : P.underlying e = some (.int .u32)) (hc : P.cellsOf e = 1) (v2 : P.underlying k2.type = some (.int .i64))
    (h : DataW.trod enc P W 0 (fun _ => true) true fuel T [v] = some x) (hfz : ∀ b off, MemPlace.cell b off ∈ x.2 → W.frozen? ⟨b, off, none⟩ = false) (hlt : ∀ q ∈ x.2, q.block < W.heap.size) :
    ∃ A n c ms, v = .slice A n c ∧ n ≤ c ∧ c ≤ maxLen ∧ Ma.LMs W 0 W.heap.size A n ms := by
  rcases open_slice hT h with ⟨hcs, _⟩ | ⟨a, len, cap, m, k, D, Pl, hcs, _, hl, hm, hmm, hx, hi⟩
  · injection hcs with hcs
    exact ⟨none, 0, 0, [], hcs, Nat.le_refl _, by unfold maxLen; omega, ⟨rfl, by decide, fun h0 => absurd h0 (Nat.lt_irrefl 0), fun j hj => absurd hj (Nat.not_lt_zero _)⟩⟩
  · injection hcs with hcs
    simp only [if_true] at hmm
    subst hmm
    have hx2 : x.2 = MemPlace.row a (m * P.cellsOf t) ++ (List.range m).flatMap Pl := by rw [hx]
    have hmem : ∀ i, i < m → ∀ q ∈ Pl i, q ∈ x.2 := fun i hi' q hq => by
      rw [hx2]
      exact List.mem_append_right _ (List.mem_flatMap.2 ⟨i, List.mem_range.2 hi', hq⟩)
    have hV : ∀ i, i < m → ∃ q : Ma.Mv, (∀ k, k < 12 → W.cell? ((a.add (i * 12)).add k) = [Value.bool q.S.s, .slice q.S.A q.S.n q.S.c, .int .i64 q.S.e, .bool q.W.s, .slice q.W.A q.W.n q.W.c, .int .i64 q.W.e, .bool q.C.s, .slice q.C.A q.C.n q.C.c, .int .i64 q.C.e, .bool q.A.s, .slice q.A.A q.A.n q.A.c, .int .i64 q.A.e][k]?) ∧ Ma.MRows W 0 W.heap.size q := fun i hi' => by
      obtain ⟨cs', h1, h2⟩ := hi i hi'
      rw [hC] at h1
      obtain ⟨_, _, hcell⟩ := World.cells?_some h1
      obtain ⟨q, e, hq⟩ := mass_trod hs hoff hty hC hd hone hC3 v0 ht he hc v2 h2 (fun b off hm => hfz b off (hmem i hi' _ hm)) (fun q hq => hlt q (hmem i hi' q hq))
      subst e
      exact ⟨q, hcell, hq⟩
    obtain ⟨q, hq⟩ := choose_lt hV
    refine ⟨some a, len, m, (List.range len).map q, hcs, hl, hm, by simp, by unfold maxLen at hm; omega, fun h0 => ?_, fun j hj => ?_⟩
    · obtain ⟨b, off, spot⟩ := a
      have hspot : spot = none := by simpa [Addr.add] using World.cell?_spot ((hq 0 (by omega)).1 0 (by decide))
      subst hspot
      have hb : b < W.heap.size := hlt _ (by
        rw [hx2]
        exact List.mem_append_left _ (MemPlace.mem_row.2 ⟨0, by rw [hC]; omega, rfl⟩) : MemPlace.cell b (off + 0) ∈ x.2)
      refine ⟨b, off, rfl, Nat.zero_le _, hb, fun j hj => ?_⟩
      have hj' : j < len := by simpa using hj
      have e : ((List.range len).map q)[j] = q j := by simp
      rw [e]
      have g := (hq j (by omega)).1
      simp only [add_plain] at g
      exact ⟨g 0 (by decide), g 1 (by decide), g 2 (by decide), g 3 (by decide), g 4 (by decide), g 5 (by decide), g 6 (by decide), g 7 (by decide), g 8 (by decide), g 9 (by decide), g 10 (by decide), g 11 (by decide)⟩
    · have e : ((List.range len).map q)[j] = q j := by simp
      rw [e]
      have hj' : j < len := by simpa using hj
      exact (hq j (by omega)).2
/-- A list of masses among the arguments. -/
theorem masses_open {T t td e : TypeId} {f0 f1 f2 f3 k0 k1 k2 : Field} {r : Reach} {b0 : Nat} {v : Value} {d : DataW H} {p : List MemPlace} (hT : P.underlying T = some (.slice t)) (hs : P.underlying t = some (.struct #[f0, f1, f2, f3]))
    (hoff : (f0.offset, f1.offset, f2.offset, f3.offset) = (0, 3, 6, 9)) (hty : (f0.type, f1.type, f2.type, f3.type) = (td, td, td, td)) (hC : P.cellsOf t = 12)
    (hd : P.underlying td = some (.struct #[k0, k1, k2])) (hone : oneCellFields P #[k0, k1, k2] = true) (hC3 : P.cellsOf td = 3)
    (v0 : P.underlying k0.type = some .bool) (ht : P.underlying k1.type = some (.slice e)) (he : P.underlying e = some (.int .u32)) (hc : P.cellsOf e = 1) (v2 : P.underlying k2.type = some (.int .i64))
    (hval : Value.okWide P W r b0 T v) (h : DataW.Trod enc P W 0 (fun _ => true) true T v d p) (hfz : ∀ b off, MemPlace.cell b off ∈ p → W.frozen? ⟨b, off, none⟩ = false) (hlt : ∀ q ∈ p, q.block < W.heap.size) :
    ∃ A n c ms, v = .slice A n c ∧ n ≤ c ∧ c ≤ maxLen ∧ Ma.LMs W 0 W.heap.size A n ms := by
  obtain ⟨A, n, c, rfl⟩ := okWide_slice hT hval
  obtain ⟨fuel, hf⟩ := h
  exact masses_trod hT hs hoff hty hC hd hone hC3 v0 ht he hc v2 (by simpa [Value.cells] using hf) hfz hlt
end
end Go.Proofs.YtlbkepiflhchdaaDoor
