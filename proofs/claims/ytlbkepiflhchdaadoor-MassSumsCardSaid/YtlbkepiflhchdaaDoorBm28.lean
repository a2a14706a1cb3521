/- mass.Sum: a walk (printed by a program of mine). -/
/- The plain law of MassGroup about sums of lists. No program in sight. -/
/- How far numbers are apart: no program in sight. -/
/- What comes of averages of two: no program in sight. -/
import Derived.Test.YtlbkepiflhchdaaDoorBm19
import Derived.Test.YtlbkepiflhchdaaDoorBm22
namespace Go.Proofs.YtlbkepiflhchdaaDoor
open Go.RowKit
namespace Ma
open Dp Dy
/-- A mass's twelve cells amid a row. -/
def MCells (w : World) (b o : Nat) (m : Mv) : Prop := w.cell? ⟨b, o, none⟩ = some (.bool m.S.s) ∧ w.cell? ⟨b, o + 1, none⟩ = some (.slice m.S.A m.S.n m.S.c) ∧ w.cell? ⟨b, o + 2, none⟩ = some (.int .i64 m.S.e) ∧ w.cell? ⟨b, o + 3, none⟩ = some (.bool m.W.s) ∧ w.cell? ⟨b, o + 4, none⟩ = some (.slice m.W.A m.W.n m.W.c) ∧ w.cell? ⟨b, o + 5, none⟩ = some (.int .i64 m.W.e) ∧ w.cell? ⟨b, o + 6, none⟩ = some (.bool m.C.s) ∧ w.cell? ⟨b, o + 7, none⟩ = some (.slice m.C.A m.C.n m.C.c) ∧ w.cell? ⟨b, o + 8, none⟩ = some (.int .i64 m.C.e) ∧ w.cell? ⟨b, o + 9, none⟩ = some (.bool m.A.s) ∧ w.cell? ⟨b, o + 10, none⟩ = some (.slice m.A.A m.A.n m.A.c) ∧ w.cell? ⟨b, o + 11, none⟩ = some (.int .i64 m.A.e)
/-- Masses in a row. -/
structure LMs (w : World) (lo hi : Nat) (A : Option Addr) (n : Nat) (ms : List Mv) : Prop where
  len : ms.length = n
  big : n ≤ 9223372036854775807
  row : 0 < n → ∃ b off, A = some ⟨b, off, none⟩ ∧ lo ≤ b ∧ b < hi ∧ ∀ j (h : j < ms.length), MCells w b (off + j * 12) ms[j]
  rows : ∀ j (h : j < ms.length), MRows w lo hi ms[j]
theorem infoM : (Tryd.prog.info? 39).map (fun i => (i.zero, i.size, i.bytes)) = some (some (.agg #[.bool false, .slice none 0 0, .int .i64 0, .bool false, .slice none 0 0, .int .i64 0, .bool false, .slice none 0 0, .int .i64 0, .bool false, .slice none 0 0, .int .i64 0]), 12, 160) := by kernel_rfl
theorem MCells.blk {w w' : World} {b o : Nat} {m : Mv} (h : MCells w b o m) (hk : w'.heap[b]? = w.heap[b]?) : MCells w' b o m := by
  obtain ⟨h0, h1, h2, h3, h4, h5, h6, h7, h8, h9, h10, h11⟩ := h
  exact ⟨by rw [World.cell?_of_block hk]; exact h0, by rw [World.cell?_of_block hk]; exact h1, by rw [World.cell?_of_block hk]; exact h2, by rw [World.cell?_of_block hk]; exact h3, by rw [World.cell?_of_block hk]; exact h4, by rw [World.cell?_of_block hk]; exact h5, by rw [World.cell?_of_block hk]; exact h6, by rw [World.cell?_of_block hk]; exact h7, by rw [World.cell?_of_block hk]; exact h8, by rw [World.cell?_of_block hk]; exact h9, by rw [World.cell?_of_block hk]; exact h10, by rw [World.cell?_of_block hk]; exact h11⟩
theorem LMs.below {w w' : World} {lo hi B : Nat} {A : Option Addr} {n : Nat} {ms : List Mv} (h : LMs w lo hi A n ms) (hb : Below B w w') (hB : hi ≤ B) : LMs w' lo hi A n ms :=
  ⟨h.len, h.big, fun h0 => by
    obtain ⟨b, off, e, h1, h2, hc⟩ := h.row h0
    exact ⟨b, off, e, h1, h2, fun j hj => (hc j hj).blk (hb.block b (by omega))⟩, fun j hj => (h.rows j hj).below hb hB⟩
theorem LMs.more {w : World} {lo hi lo' hi' : Nat} {A : Option Addr} {n : Nat} {ms : List Mv} (h : LMs w lo hi A n ms) (hl : lo' ≤ lo) (hh : hi ≤ hi') : LMs w lo' hi' A n ms :=
  ⟨h.len, h.big, fun h0 => by
    obtain ⟨b, off, e, h1, h2, hc⟩ := h.row h0
    exact ⟨b, off, e, by omega, by omega, hc⟩, fun j hj => (h.rows j hj).more hl hh⟩
open Classical in
noncomputable def foldM : (Nat → Dn) → List Mv → Option (Nat → Dn)
  | R, [] => some R
  | R, m :: l => if ∀ x, x < 4 → (addD (R x) (dnM m x)).2 = 0 then foldM (fun x => (addD (R x) (dnM m x)).1) l else none
open Classical in
/-- What the sum of all is. -/
noncomputable def sumM (ms : List Mv) : (Nat → Dn) × Int :=
  if 4096 < ms.length then (zR, 4) else if ∃ m ∈ ms, ¬ m.may then (zR, 8) else match foldM zR ms with
    | some R => (R, 0)
    | none => (zR, 10)
theorem add_step {w : World} {lo hi : Nat} {S d : Mv} {R R2 : Nat → Dn} {code : Int} (hd : MRows w lo hi d) (hm : d.may) (hS : IsM R S) (hR : MayR R) (h : addM S d = (R2, code)) :
    (code = 0 ∧ (∀ x, x < 4 → (addD (R x) (dnM d x)).2 = 0) ∧ ∀ x, x < 4 → R2 x = (addD (R x) (dnM d x)).1) ∨ (code = 10 ∧ (¬ ∀ x, x < 4 → (addD (R x) (dnM d x)).2 = 0) ∧ R2 = zR) := by
  have key : ∀ x, x < 4 → xAdd S d x = addD (R x) (dnM d x) := fun x hx => hS.add (IsM.of hd hm) hR (dnM_may hd hm) hx
  unfold addM at h
  rw [if_pos ⟨hS.may hR, hm⟩] at h
  by_cases hc : ∀ j, j < 4 → (xAdd S d j).2 = 0
  · rw [if_pos hc] at h
    injection h with h1 h2
    subst h1
    exact .inl ⟨h2.symm, fun x hx => by rw [← key x hx]; exact hc x hx, fun x hx => by rw [← key x hx]⟩
  · rw [if_neg hc] at h
    injection h with h1 h2
    exact .inr ⟨h2.symm, fun k => hc fun j hj => by rw [key j hj]; exact k j hj, h1.symm⟩
open Classical in
theorem foldM_cons (R : Nat → Dn) (m : Mv) (l : List Mv) : foldM R (m :: l) = if ∀ x, x < 4 → (addD (R x) (dnM m x)).2 = 0 then foldM (fun x => (addD (R x) (dnM m x)).1) l else none := rfl
set_option maxHeartbeats 6400000 in
set_option maxRecDepth 100000 in
/-- mass.Sum, of too many. -/
theorem MSum_many (w : World) (A : Option Addr) (n c : Nat) (hn : 4096 < n) :
    Calls Tryd.prog 30 #[.slice A n c] w fun e w' => e = .returned (.tuple #[.agg #[.bool false, .slice none 0 0, .int .i64 0, .bool false, .slice none 0 0, .int .i64 0, .bool false, .slice none 0 0, .int .i64 0, .bool false, .slice none 0 0, .int .i64 0], .int .i64 4]) ∧ Below w.heap.size w w' := by
  generalize hw : w.alloc (.cells #[.bool false, .slice none 0 0, .int .i64 0, .bool false, .slice none 0 0, .int .i64 0, .bool false, .slice none 0 0, .int .i64 0, .bool false, .slice none 0 0, .int .i64 0] 39) = u
  have hZ1 : MBox u w.heap.size ZM := by rw [← hw]; exact heap_alloc_last _ _
  have hb : Below w.heap.size w u := by rw [← hw]; exact (Below.refl _ w).alloc (Nat.le_refl _) _
  obtain ⟨⟨z0, z1, z2, z3, z4, z5, z6, z7, z8, z9, z10, z11⟩, zf⟩ := MBox.cells hZ1
  go_enter Tryd.func30, Tryd.ntmps30
  go_wp2
  try clear hw
  have hX : MBox ((((((((((((u.setCell ⟨w.heap.size, 0, none⟩ (.bool false)).setCell ⟨w.heap.size, 1, none⟩ (.slice none 0 0)).setCell ⟨w.heap.size, 2, none⟩ (.int .i64 0)).setCell ⟨w.heap.size, 3, none⟩ (.bool false)).setCell ⟨w.heap.size, 4, none⟩ (.slice none 0 0)).setCell ⟨w.heap.size, 5, none⟩ (.int .i64 0)).setCell ⟨w.heap.size, 6, none⟩ (.bool false)).setCell ⟨w.heap.size, 7, none⟩ (.slice none 0 0)).setCell ⟨w.heap.size, 8, none⟩ (.int .i64 0)).setCell ⟨w.heap.size, 9, none⟩ (.bool false)).setCell ⟨w.heap.size, 10, none⟩ (.slice none 0 0)).setCell ⟨w.heap.size, 11, none⟩ (.int .i64 0)) (w.heap.size) ZM := MBox.all hZ1 ZM
  have hY : Below w.heap.size w ((((((((((((u.setCell ⟨w.heap.size, 0, none⟩ (.bool false)).setCell ⟨w.heap.size, 1, none⟩ (.slice none 0 0)).setCell ⟨w.heap.size, 2, none⟩ (.int .i64 0)).setCell ⟨w.heap.size, 3, none⟩ (.bool false)).setCell ⟨w.heap.size, 4, none⟩ (.slice none 0 0)).setCell ⟨w.heap.size, 5, none⟩ (.int .i64 0)).setCell ⟨w.heap.size, 6, none⟩ (.bool false)).setCell ⟨w.heap.size, 7, none⟩ (.slice none 0 0)).setCell ⟨w.heap.size, 8, none⟩ (.int .i64 0)).setCell ⟨w.heap.size, 9, none⟩ (.bool false)).setCell ⟨w.heap.size, 10, none⟩ (.slice none 0 0)).setCell ⟨w.heap.size, 11, none⟩ (.int .i64 0)) := below_all hb (Nat.le_refl _) ZM
  clear z0 z1 z2 z3 z4 z5 z6 z7 z8 z9 z10 z11 zf
  generalize ((((((((((((u.setCell ⟨w.heap.size, 0, none⟩ (.bool false)).setCell ⟨w.heap.size, 1, none⟩ (.slice none 0 0)).setCell ⟨w.heap.size, 2, none⟩ (.int .i64 0)).setCell ⟨w.heap.size, 3, none⟩ (.bool false)).setCell ⟨w.heap.size, 4, none⟩ (.slice none 0 0)).setCell ⟨w.heap.size, 5, none⟩ (.int .i64 0)).setCell ⟨w.heap.size, 6, none⟩ (.bool false)).setCell ⟨w.heap.size, 7, none⟩ (.slice none 0 0)).setCell ⟨w.heap.size, 8, none⟩ (.int .i64 0)).setCell ⟨w.heap.size, 9, none⟩ (.bool false)).setCell ⟨w.heap.size, 10, none⟩ (.slice none 0 0)).setCell ⟨w.heap.size, 11, none⟩ (.int .i64 0)) = U at *
  obtain ⟨M, hMe⟩ : ∃ M : Mv, M = ZM := ⟨_, rfl⟩
  rw [← hMe] at hX
  obtain ⟨⟨k0, k1, k2, k3, k4, k5, k6, k7, k8, k9, k10, k11⟩, kf⟩ := MBox.cells hX
  refine bodyPost_ret (v := .tuple #[.agg #[.bool M.S.s, .slice M.S.A M.S.n M.S.c, .int .i64 M.S.e, .bool M.W.s, .slice M.W.A M.W.n M.W.c, .int .i64 M.W.e, .bool M.C.s, .slice M.C.A M.C.n M.C.c, .int .i64 M.C.e, .bool M.A.s, .slice M.A.A M.A.n M.A.c, .int .i64 M.A.e], .int .i64 4]) (by simp [results, Tryd.results30, go_sem, k0, k1, k2, k3, k4, k5, k6, k7, k8, k9, k10, k11]) rfl ⟨by rw [hMe]; rfl, hY⟩
set_option maxHeartbeats 12800000 in
set_option maxRecDepth 100000 in
/-- mass.Sum. -/
theorem MSum_any (w : World) (A : Option Addr) (n c : Nat) (ms : List Mv) (hL : LMs w 0 w.heap.size A n ms) (hn : n ≤ 4096) (hT : Tab w) (R : Nat → Dn) (code : Int) (h : sumM ms = (R, code)) :
    Calls Tryd.prog 30 #[.slice A n c] w fun e w' => ∃ m' : Mv, e = .returned (.tuple #[.agg #[.bool m'.S.s, .slice m'.S.A m'.S.n m'.S.c, .int .i64 m'.S.e, .bool m'.W.s, .slice m'.W.A m'.W.n m'.W.c, .int .i64 m'.W.e, .bool m'.C.s, .slice m'.C.A m'.C.n m'.C.c, .int .i64 m'.C.e, .bool m'.A.s, .slice m'.A.A m'.A.n m'.A.c, .int .i64 m'.A.e], .int .i64 code]) ∧ Below w.heap.size w w' ∧ IsM R m' ∧ MRows w' w.heap.size w'.heap.size m' := by
  have HL := Lib.hid hL.len
  unfold sumM at h
  rw [if_neg (by rw [HL.out]; omega)] at h
  have H := Lib.hid h
  clear h
  obtain ⟨i0, hi0, hz0, hz1, hz2⟩ := info_parts infoM
  generalize hw : w.alloc (.cells #[.bool false, .slice none 0 0, .int .i64 0, .bool false, .slice none 0 0, .int .i64 0, .bool false, .slice none 0 0, .int .i64 0, .bool false, .slice none 0 0, .int .i64 0] 39) = w1
  have hZ1 : MBox w1 w.heap.size ZM := by rw [← hw]; exact heap_alloc_last _ _
  have hb : Below w.heap.size w w1 := by rw [← hw]; exact (Below.refl _ w).alloc (Nat.le_refl _) _
  have l1 : w.heap.size < w1.heap.size := by rw [← hw]; simp
  go_enter Tryd.func30, Tryd.ntmps30
  go_wp2
  try clear hw
  go_loopw [3, 5, 6, 15] (fun ev _ _ iv wr => ∃ i : Nat, iv = .int .i64 i ∧ ev = .int .i64 0 ∧ i ≤ n ∧ MBox wr w.heap.size ZM ∧ Below w.heap.size w wr ∧ w.heap.size < wr.heap.size ∧ Hid (∀ j (h : j < ms.length), j < i → ms[j].may)) (fun _ _ _ iv _ => n - (intOf iv).toNat)
  case atStart => exact ⟨0, rfl, rfl, Nat.zero_le _, hZ1, hb, l1, Lib.hid fun j h hj => absurd hj (Nat.not_lt_zero _)⟩
  case round =>
    clear hZ1 hb l1
    obtain ⟨i, rfl, rfl, hi1, hZ1, hb, l1, hall⟩ := hrel
    have hLr := hL.below hb (Nat.le_refl _)
    by_cases hlt : i < n
    · have hi2 : i < ms.length := by rw [HL.out]; exact hlt
      obtain ⟨b, off, hA, h1, h2, hc⟩ := hLr.row (by omega)
      have hci := hc i hi2
      have hri := hLr.rows i hi2
      obtain ⟨d, hd⟩ : ∃ d, ms[i] = d := ⟨_, rfl⟩
      rw [hd] at hci hri
      have HD := Lib.hid hd
      subst hA
      clear hd hc hLr
      obtain ⟨k0, k1, k2, k3, k4, k5, k6, k7, k8, k9, k10, k11⟩ := hci
      have hwr : IntKind.i64.wrap ((i : Int) + 1) = ((i + 1 : Nat) : Int) := by rw [IntKind.wrap_i64]; omega
      have hBL := (Below.refl wr.heap.size wr).alloc (Nat.le_refl _) (.cells #[.bool d.S.s, .slice d.S.A d.S.n d.S.c, .int .i64 d.S.e, .bool d.W.s, .slice d.W.A d.W.n d.W.c, .int .i64 d.W.e, .bool d.C.s, .slice d.C.A d.C.n d.C.c, .int .i64 d.C.e, .bool d.A.s, .slice d.A.A d.A.n d.A.c, .int .i64 d.A.e] 39)
      have hM2 : MBox (wr.alloc (.cells #[.bool d.S.s, .slice d.S.A d.S.n d.S.c, .int .i64 d.S.e, .bool d.W.s, .slice d.W.A d.W.n d.W.c, .int .i64 d.W.e, .bool d.C.s, .slice d.C.A d.C.n d.C.c, .int .i64 d.C.e, .bool d.A.s, .slice d.A.A d.A.n d.A.c, .int .i64 d.A.e] 39)) wr.heap.size d := heap_alloc_last _ _
      have hZ2 : MBox (wr.alloc (.cells #[.bool d.S.s, .slice d.S.A d.S.n d.S.c, .int .i64 d.S.e, .bool d.W.s, .slice d.W.A d.W.n d.W.c, .int .i64 d.W.e, .bool d.C.s, .slice d.C.A d.C.n d.C.c, .int .i64 d.C.e, .bool d.A.s, .slice d.A.A d.A.n d.A.c, .int .i64 d.A.e] 39)) w.heap.size ZM := box_on hZ1 hBL l1
      have hr2 : MRows (wr.alloc (.cells #[.bool d.S.s, .slice d.S.A d.S.n d.S.c, .int .i64 d.S.e, .bool d.W.s, .slice d.W.A d.W.n d.W.c, .int .i64 d.W.e, .bool d.C.s, .slice d.C.A d.C.n d.C.c, .int .i64 d.C.e, .bool d.A.s, .slice d.A.A d.A.n d.A.c, .int .i64 d.A.e] 39)) 0 (wr.alloc (.cells #[.bool d.S.s, .slice d.S.A d.S.n d.S.c, .int .i64 d.S.e, .bool d.W.s, .slice d.W.A d.W.n d.W.c, .int .i64 d.W.e, .bool d.C.s, .slice d.C.A d.C.n d.C.c, .int .i64 d.C.e, .bool d.A.s, .slice d.A.A d.A.n d.A.c, .int .i64 d.A.e] 39)).heap.size d := (hri.below hBL (by omega)).more (Nat.le_refl _) (by have := hBL.size; omega)
      have hb2 : Below w.heap.size w (wr.alloc (.cells #[.bool d.S.s, .slice d.S.A d.S.n d.S.c, .int .i64 d.S.e, .bool d.W.s, .slice d.W.A d.W.n d.W.c, .int .i64 d.W.e, .bool d.C.s, .slice d.C.A d.C.n d.C.c, .int .i64 d.C.e, .bool d.A.s, .slice d.A.A d.A.n d.A.c, .int .i64 d.A.e] 39)) := hb.trans (hBL.mono (by omega))
      have l2 : wr.heap.size < (wr.alloc (.cells #[.bool d.S.s, .slice d.S.A d.S.n d.S.c, .int .i64 d.S.e, .bool d.W.s, .slice d.W.A d.W.n d.W.c, .int .i64 d.W.e, .bool d.C.s, .slice d.C.A d.C.n d.C.c, .int .i64 d.C.e, .bool d.A.s, .slice d.A.A d.A.n d.A.c, .int .i64 d.A.e] 39)).heap.size := by simp
      generalize hw2 : wr.alloc (.cells #[.bool d.S.s, .slice d.S.A d.S.n d.S.c, .int .i64 d.S.e, .bool d.W.s, .slice d.W.A d.W.n d.W.c, .int .i64 d.W.e, .bool d.C.s, .slice d.C.A d.C.n d.C.c, .int .i64 d.C.e, .bool d.A.s, .slice d.A.A d.A.n d.A.c, .int .i64 d.A.e] 39) = w2 at *
      obtain ⟨⟨y0, y1, y2, y3, y4, y5, y6, y7, y8, y9, y10, y11⟩, yf⟩ := MBox.cells hM2
      obtain ⟨q, hq⟩ : ∃ q, chkM d = q := ⟨_, rfl⟩
      go_wp2_with fail
      refine (MCheck_any w2 d hr2 q hq).mono ?_
      rintro e w3 ⟨rfl, hB⟩
      clear k0 k1 k2 k3 k4 k5 k6 k7 k8 k9 k10 k11 y0 y1 y2 y3 y4 y5 y6 y7 y8 y9 y10 y11 yf hw2
      have l3 := hB.size
      have hZ3 : MBox w3 w.heap.size ZM := box_on hZ2 hB (by omega)
      have hb3 := hb2.trans (hB.mono (by omega))
      clear hB hBL
      by_cases hm : d.may
      · have hq0 : q = 0 := hq.symm.trans (chk_may hm)
        subst hq0
        go_wp2
        go_roundw
        case rel => exact ⟨i + 1, by first | rfl | (congr 1; omega) | go_num, rfl, by omega, hZ3, hb3, by omega, Lib.hid fun j hj hji => by
          by_cases e : j = i
          · subst e
            rw [HD.out]
            exact hm
          · exact hall.out j hj (by omega)⟩
        case measure => first | (simp [intOf]; done) | (simp [intOf]; omega)
      · have hq0 : q = 8 := hq.symm.trans (chk_not hm)
        subst hq0
        have hcode : (R, code) = (zR, 8) := by
          have := H.out
          rw [if_pos ⟨ms[i], List.getElem_mem hi2, by rw [HD.out]; exact hm⟩] at this
          exact this.symm
        injection hcode with hR hcd
        subst hR hcd
        obtain ⟨⟨z0, z1, z2, z3, z4, z5, z6, z7, z8, z9, z10, z11⟩, zf⟩ := MBox.cells hZ3
        go_wp2
        have hX : MBox ((((((((((((w3.setCell ⟨w.heap.size, 0, none⟩ (.bool false)).setCell ⟨w.heap.size, 1, none⟩ (.slice none 0 0)).setCell ⟨w.heap.size, 2, none⟩ (.int .i64 0)).setCell ⟨w.heap.size, 3, none⟩ (.bool false)).setCell ⟨w.heap.size, 4, none⟩ (.slice none 0 0)).setCell ⟨w.heap.size, 5, none⟩ (.int .i64 0)).setCell ⟨w.heap.size, 6, none⟩ (.bool false)).setCell ⟨w.heap.size, 7, none⟩ (.slice none 0 0)).setCell ⟨w.heap.size, 8, none⟩ (.int .i64 0)).setCell ⟨w.heap.size, 9, none⟩ (.bool false)).setCell ⟨w.heap.size, 10, none⟩ (.slice none 0 0)).setCell ⟨w.heap.size, 11, none⟩ (.int .i64 0)) (w.heap.size) ZM := MBox.all hZ3 ZM
        have hY : Below w.heap.size w ((((((((((((w3.setCell ⟨w.heap.size, 0, none⟩ (.bool false)).setCell ⟨w.heap.size, 1, none⟩ (.slice none 0 0)).setCell ⟨w.heap.size, 2, none⟩ (.int .i64 0)).setCell ⟨w.heap.size, 3, none⟩ (.bool false)).setCell ⟨w.heap.size, 4, none⟩ (.slice none 0 0)).setCell ⟨w.heap.size, 5, none⟩ (.int .i64 0)).setCell ⟨w.heap.size, 6, none⟩ (.bool false)).setCell ⟨w.heap.size, 7, none⟩ (.slice none 0 0)).setCell ⟨w.heap.size, 8, none⟩ (.int .i64 0)).setCell ⟨w.heap.size, 9, none⟩ (.bool false)).setCell ⟨w.heap.size, 10, none⟩ (.slice none 0 0)).setCell ⟨w.heap.size, 11, none⟩ (.int .i64 0)) := below_all hb3 (Nat.le_refl _) ZM
        clear z0 z1 z2 z3 z4 z5 z6 z7 z8 z9 z10 z11 zf
        generalize ((((((((((((w3.setCell ⟨w.heap.size, 0, none⟩ (.bool false)).setCell ⟨w.heap.size, 1, none⟩ (.slice none 0 0)).setCell ⟨w.heap.size, 2, none⟩ (.int .i64 0)).setCell ⟨w.heap.size, 3, none⟩ (.bool false)).setCell ⟨w.heap.size, 4, none⟩ (.slice none 0 0)).setCell ⟨w.heap.size, 5, none⟩ (.int .i64 0)).setCell ⟨w.heap.size, 6, none⟩ (.bool false)).setCell ⟨w.heap.size, 7, none⟩ (.slice none 0 0)).setCell ⟨w.heap.size, 8, none⟩ (.int .i64 0)).setCell ⟨w.heap.size, 9, none⟩ (.bool false)).setCell ⟨w.heap.size, 10, none⟩ (.slice none 0 0)).setCell ⟨w.heap.size, 11, none⟩ (.int .i64 0)) = U at *
        obtain ⟨M, hMe⟩ : ∃ M : Mv, M = ZM := ⟨_, rfl⟩
        rw [← hMe] at hX
        obtain ⟨⟨k0, k1, k2, k3, k4, k5, k6, k7, k8, k9, k10, k11⟩, kf⟩ := MBox.cells hX
        refine bodyPost_ret (v := .tuple #[.agg #[.bool M.S.s, .slice M.S.A M.S.n M.S.c, .int .i64 M.S.e, .bool M.W.s, .slice M.W.A M.W.n M.W.c, .int .i64 M.W.e, .bool M.C.s, .slice M.C.A M.C.n M.C.c, .int .i64 M.C.e, .bool M.A.s, .slice M.A.A M.A.n M.A.c, .int .i64 M.A.e], .int .i64 8]) (by simp [results, Tryd.results30, go_sem, k0, k1, k2, k3, k4, k5, k6, k7, k8, k9, k10, k11]) rfl ⟨M, rfl, hY, ?_, ?_⟩
        · rw [hMe]
          exact IsM.zero
        · rw [hMe]
          exact ZM_rows ..
    · have hin : n ≤ i := by omega
      have hmay : Hid (∀ j (h : j < ms.length), ms[j].may) := Lib.hid fun j h => hall.out j h (by have := HL.out; omega)
      have H2 : Hid ((match foldM zR ms with | some R => (R, (0 : Int)) | none => (zR, 10)) = (R, code)) := Lib.hid (by
        have := H.out
        rw [if_neg (by
          rintro ⟨m, hm, hn⟩
          obtain ⟨j, hj, e⟩ := List.getElem_of_mem hm
          exact hn (e ▸ hmay.out j hj))] at this
        exact this)
      clear hall hLr
      go_wp2
      obtain ⟨wo, rfl⟩ : ∃ wo : World, wo = wr := ⟨_, rfl⟩
      go_loopw [3, 8, 28] (fun ev _ iv ww => ∃ (i : Nat) (S : Mv) (R' : Nat → Dn), iv = .int .i64 i ∧ ev = .int .i64 0 ∧ i ≤ n ∧ MBox ww w.heap.size S ∧ Below w.heap.size w ww ∧ w.heap.size < ww.heap.size ∧ MRows ww (w.heap.size + 1) ww.heap.size S ∧ Hid (IsM R' S ∧ MayR R' ∧ foldM R' (ms.drop i) = foldM zR ms)) (fun _ _ iv _ => n - (intOf iv).toNat)
      case atStart => exact ⟨0, ZM, zR, rfl, rfl, Nat.zero_le _, hZ1, hb, l1, ZM_rows .., Lib.hid ⟨IsM.zero, zR_may, rfl⟩⟩
      case round =>
        clear hZ1 hb l1
        obtain ⟨i, S, R', rfl, rfl, hi1, hS1, hb, l1, hRS, hI⟩ := hrel
        have hLr := hL.below hb (Nat.le_refl _)
        by_cases hlt : i < n
        · have hi2 : i < ms.length := by rw [HL.out]; exact hlt
          obtain ⟨b, off, hA, h1, h2, hc⟩ := hLr.row (by omega)
          have hci := hc i hi2
          have hri := hLr.rows i hi2
          have hmd := hmay.out i hi2
          obtain ⟨d, hd⟩ : ∃ d, ms[i] = d := ⟨_, rfl⟩
          rw [hd] at hci hri hmd
          have HD := Lib.hid hd
          have HM := Lib.hid hmd
          subst hA
          clear hd hc hLr hmd
          obtain ⟨k0, k1, k2, k3, k4, k5, k6, k7, k8, k9, k10, k11⟩ := hci
          have hwr : IntKind.i64.wrap ((i : Int) + 1) = ((i + 1 : Nat) : Int) := by rw [IntKind.wrap_i64]; omega
          have hBL := (Below.refl wr.heap.size wr).alloc (Nat.le_refl _) (.cells #[.bool d.S.s, .slice d.S.A d.S.n d.S.c, .int .i64 d.S.e, .bool d.W.s, .slice d.W.A d.W.n d.W.c, .int .i64 d.W.e, .bool d.C.s, .slice d.C.A d.C.n d.C.c, .int .i64 d.C.e, .bool d.A.s, .slice d.A.A d.A.n d.A.c, .int .i64 d.A.e] 39)
          have hM2 : MBox (wr.alloc (.cells #[.bool d.S.s, .slice d.S.A d.S.n d.S.c, .int .i64 d.S.e, .bool d.W.s, .slice d.W.A d.W.n d.W.c, .int .i64 d.W.e, .bool d.C.s, .slice d.C.A d.C.n d.C.c, .int .i64 d.C.e, .bool d.A.s, .slice d.A.A d.A.n d.A.c, .int .i64 d.A.e] 39)) wr.heap.size d := heap_alloc_last _ _
          have hS2 : MBox (wr.alloc (.cells #[.bool d.S.s, .slice d.S.A d.S.n d.S.c, .int .i64 d.S.e, .bool d.W.s, .slice d.W.A d.W.n d.W.c, .int .i64 d.W.e, .bool d.C.s, .slice d.C.A d.C.n d.C.c, .int .i64 d.C.e, .bool d.A.s, .slice d.A.A d.A.n d.A.c, .int .i64 d.A.e] 39)) w.heap.size S := box_on hS1 hBL l1
          have hr2 : MRows (wr.alloc (.cells #[.bool d.S.s, .slice d.S.A d.S.n d.S.c, .int .i64 d.S.e, .bool d.W.s, .slice d.W.A d.W.n d.W.c, .int .i64 d.W.e, .bool d.C.s, .slice d.C.A d.C.n d.C.c, .int .i64 d.C.e, .bool d.A.s, .slice d.A.A d.A.n d.A.c, .int .i64 d.A.e] 39)) 0 (wr.alloc (.cells #[.bool d.S.s, .slice d.S.A d.S.n d.S.c, .int .i64 d.S.e, .bool d.W.s, .slice d.W.A d.W.n d.W.c, .int .i64 d.W.e, .bool d.C.s, .slice d.C.A d.C.n d.C.c, .int .i64 d.C.e, .bool d.A.s, .slice d.A.A d.A.n d.A.c, .int .i64 d.A.e] 39)).heap.size d := (hri.below hBL (by omega)).more (Nat.le_refl _) (by have := hBL.size; omega)
          have hrS2 : MRows (wr.alloc (.cells #[.bool d.S.s, .slice d.S.A d.S.n d.S.c, .int .i64 d.S.e, .bool d.W.s, .slice d.W.A d.W.n d.W.c, .int .i64 d.W.e, .bool d.C.s, .slice d.C.A d.C.n d.C.c, .int .i64 d.C.e, .bool d.A.s, .slice d.A.A d.A.n d.A.c, .int .i64 d.A.e] 39)) 0 (wr.alloc (.cells #[.bool d.S.s, .slice d.S.A d.S.n d.S.c, .int .i64 d.S.e, .bool d.W.s, .slice d.W.A d.W.n d.W.c, .int .i64 d.W.e, .bool d.C.s, .slice d.C.A d.C.n d.C.c, .int .i64 d.C.e, .bool d.A.s, .slice d.A.A d.A.n d.A.c, .int .i64 d.A.e] 39)).heap.size S := (hRS.below hBL (Nat.le_refl _)).more (Nat.zero_le _) hBL.size
          have hb2 : Below w.heap.size w (wr.alloc (.cells #[.bool d.S.s, .slice d.S.A d.S.n d.S.c, .int .i64 d.S.e, .bool d.W.s, .slice d.W.A d.W.n d.W.c, .int .i64 d.W.e, .bool d.C.s, .slice d.C.A d.C.n d.C.c, .int .i64 d.C.e, .bool d.A.s, .slice d.A.A d.A.n d.A.c, .int .i64 d.A.e] 39)) := hb.trans (hBL.mono (by omega))
          have l2 : wr.heap.size < (wr.alloc (.cells #[.bool d.S.s, .slice d.S.A d.S.n d.S.c, .int .i64 d.S.e, .bool d.W.s, .slice d.W.A d.W.n d.W.c, .int .i64 d.W.e, .bool d.C.s, .slice d.C.A d.C.n d.C.c, .int .i64 d.C.e, .bool d.A.s, .slice d.A.A d.A.n d.A.c, .int .i64 d.A.e] 39)).heap.size := by simp
          generalize hw2 : wr.alloc (.cells #[.bool d.S.s, .slice d.S.A d.S.n d.S.c, .int .i64 d.S.e, .bool d.W.s, .slice d.W.A d.W.n d.W.c, .int .i64 d.W.e, .bool d.C.s, .slice d.C.A d.C.n d.C.c, .int .i64 d.C.e, .bool d.A.s, .slice d.A.A d.A.n d.A.c, .int .i64 d.A.e] 39) = w2 at *
          have t2 := hT.below hb2 hT.lt
          obtain ⟨⟨y0, y1, y2, y3, y4, y5, y6, y7, y8, y9, y10, y11⟩, yf⟩ := MBox.cells hM2
          obtain ⟨⟨z0, z1, z2, z3, z4, z5, z6, z7, z8, z9, z10, z11⟩, zf⟩ := MBox.cells hS2
          obtain ⟨R2, q, hq⟩ : ∃ R2 q, addM S d = (R2, q) := ⟨_, _, rfl⟩
          have hstep := Lib.hid (add_step hri HM.out hI.out.1 hI.out.2.1 hq)
          have hmR2 : MayR R2 := by have := addM_may S d; rw [hq] at this; exact this
          have HMR2 := Lib.hid hmR2
          have HQ := Lib.hid hq
          clear hq hmR2
          go_wp2_with fail
          refine (MAdd_num w2 S d hrS2 hr2 t2 R2 q HQ.out).mono ?_
          rintro e w3 ⟨S', rfl, hB, hIS, hRS'⟩
          have HIS := Lib.hid hIS
          clear k0 k1 k2 k3 k4 k5 k6 k7 k8 k9 k10 k11 y0 y1 y2 y3 y4 y5 y6 y7 y8 y9 y10 y11 yf z0 z1 z2 z3 z4 z5 z6 z7 z8 z9 z10 z11 zf hw2 hIS
          have l3 := hB.size
          have hS3 : MBox w3 w.heap.size S := box_on hS2 hB (by omega)
          have hb3 := hb2.trans (hB.mono (by omega))
          clear hB hBL
          obtain ⟨⟨z0, z1, z2, z3, z4, z5, z6, z7, z8, z9, z10, z11⟩, zf⟩ := MBox.cells hS3
          have hX : MBox ((((((((((((w3.setCell ⟨w.heap.size, 0, none⟩ (.bool S'.S.s)).setCell ⟨w.heap.size, 1, none⟩ (.slice S'.S.A S'.S.n S'.S.c)).setCell ⟨w.heap.size, 2, none⟩ (.int .i64 S'.S.e)).setCell ⟨w.heap.size, 3, none⟩ (.bool S'.W.s)).setCell ⟨w.heap.size, 4, none⟩ (.slice S'.W.A S'.W.n S'.W.c)).setCell ⟨w.heap.size, 5, none⟩ (.int .i64 S'.W.e)).setCell ⟨w.heap.size, 6, none⟩ (.bool S'.C.s)).setCell ⟨w.heap.size, 7, none⟩ (.slice S'.C.A S'.C.n S'.C.c)).setCell ⟨w.heap.size, 8, none⟩ (.int .i64 S'.C.e)).setCell ⟨w.heap.size, 9, none⟩ (.bool S'.A.s)).setCell ⟨w.heap.size, 10, none⟩ (.slice S'.A.A S'.A.n S'.A.c)).setCell ⟨w.heap.size, 11, none⟩ (.int .i64 S'.A.e)) w.heap.size S' := MBox.all hS3 S'
          have hY : Below w.heap.size w ((((((((((((w3.setCell ⟨w.heap.size, 0, none⟩ (.bool S'.S.s)).setCell ⟨w.heap.size, 1, none⟩ (.slice S'.S.A S'.S.n S'.S.c)).setCell ⟨w.heap.size, 2, none⟩ (.int .i64 S'.S.e)).setCell ⟨w.heap.size, 3, none⟩ (.bool S'.W.s)).setCell ⟨w.heap.size, 4, none⟩ (.slice S'.W.A S'.W.n S'.W.c)).setCell ⟨w.heap.size, 5, none⟩ (.int .i64 S'.W.e)).setCell ⟨w.heap.size, 6, none⟩ (.bool S'.C.s)).setCell ⟨w.heap.size, 7, none⟩ (.slice S'.C.A S'.C.n S'.C.c)).setCell ⟨w.heap.size, 8, none⟩ (.int .i64 S'.C.e)).setCell ⟨w.heap.size, 9, none⟩ (.bool S'.A.s)).setCell ⟨w.heap.size, 10, none⟩ (.slice S'.A.A S'.A.n S'.A.c)).setCell ⟨w.heap.size, 11, none⟩ (.int .i64 S'.A.e)) := below_all hb3 (Nat.le_refl _) S'
          have hRX : MRows ((((((((((((w3.setCell ⟨w.heap.size, 0, none⟩ (.bool S'.S.s)).setCell ⟨w.heap.size, 1, none⟩ (.slice S'.S.A S'.S.n S'.S.c)).setCell ⟨w.heap.size, 2, none⟩ (.int .i64 S'.S.e)).setCell ⟨w.heap.size, 3, none⟩ (.bool S'.W.s)).setCell ⟨w.heap.size, 4, none⟩ (.slice S'.W.A S'.W.n S'.W.c)).setCell ⟨w.heap.size, 5, none⟩ (.int .i64 S'.W.e)).setCell ⟨w.heap.size, 6, none⟩ (.bool S'.C.s)).setCell ⟨w.heap.size, 7, none⟩ (.slice S'.C.A S'.C.n S'.C.c)).setCell ⟨w.heap.size, 8, none⟩ (.int .i64 S'.C.e)).setCell ⟨w.heap.size, 9, none⟩ (.bool S'.A.s)).setCell ⟨w.heap.size, 10, none⟩ (.slice S'.A.A S'.A.n S'.A.c)).setCell ⟨w.heap.size, 11, none⟩ (.int .i64 S'.A.e)) (w.heap.size + 1) w3.heap.size S' := rows_all (hRS'.more (by omega) (Nat.le_refl _)) (g := w.heap.size) (.inl (by omega)) S'
          have hsX : ((((((((((((w3.setCell ⟨w.heap.size, 0, none⟩ (.bool S'.S.s)).setCell ⟨w.heap.size, 1, none⟩ (.slice S'.S.A S'.S.n S'.S.c)).setCell ⟨w.heap.size, 2, none⟩ (.int .i64 S'.S.e)).setCell ⟨w.heap.size, 3, none⟩ (.bool S'.W.s)).setCell ⟨w.heap.size, 4, none⟩ (.slice S'.W.A S'.W.n S'.W.c)).setCell ⟨w.heap.size, 5, none⟩ (.int .i64 S'.W.e)).setCell ⟨w.heap.size, 6, none⟩ (.bool S'.C.s)).setCell ⟨w.heap.size, 7, none⟩ (.slice S'.C.A S'.C.n S'.C.c)).setCell ⟨w.heap.size, 8, none⟩ (.int .i64 S'.C.e)).setCell ⟨w.heap.size, 9, none⟩ (.bool S'.A.s)).setCell ⟨w.heap.size, 10, none⟩ (.slice S'.A.A S'.A.n S'.A.c)).setCell ⟨w.heap.size, 11, none⟩ (.int .i64 S'.A.e)).heap.size = w3.heap.size := size_all S'
          have hsX1 : w3.heap.size ≤ ((((((((((((w3.setCell ⟨w.heap.size, 0, none⟩ (.bool S'.S.s)).setCell ⟨w.heap.size, 1, none⟩ (.slice S'.S.A S'.S.n S'.S.c)).setCell ⟨w.heap.size, 2, none⟩ (.int .i64 S'.S.e)).setCell ⟨w.heap.size, 3, none⟩ (.bool S'.W.s)).setCell ⟨w.heap.size, 4, none⟩ (.slice S'.W.A S'.W.n S'.W.c)).setCell ⟨w.heap.size, 5, none⟩ (.int .i64 S'.W.e)).setCell ⟨w.heap.size, 6, none⟩ (.bool S'.C.s)).setCell ⟨w.heap.size, 7, none⟩ (.slice S'.C.A S'.C.n S'.C.c)).setCell ⟨w.heap.size, 8, none⟩ (.int .i64 S'.C.e)).setCell ⟨w.heap.size, 9, none⟩ (.bool S'.A.s)).setCell ⟨w.heap.size, 10, none⟩ (.slice S'.A.A S'.A.n S'.A.c)).setCell ⟨w.heap.size, 11, none⟩ (.int .i64 S'.A.e)).heap.size := Nat.le_of_eq hsX.symm
          clear hsX
          rcases hstep.out with ⟨hq0, hs0, hs1⟩ | ⟨hq0, hs0, hs1⟩
          · subst hq0
            have hI2 : Hid (IsM (fun x => (addD (R' x) (dnM d x)).1) S' ∧ MayR (fun x => (addD (R' x) (dnM d x)).1) ∧ foldM (fun x => (addD (R' x) (dnM d x)).1) (ms.drop (i + 1)) = foldM zR ms) := Lib.hid ⟨HIS.out.of_eq fun x hx => (hs1 x hx).symm, fun x _ => add_may .., by
              have e := hI.out.2.2
              rw [List.drop_eq_getElem_cons hi2, HD.out, foldM_cons, if_pos hs0] at e
              exact e⟩
            clear hs0 hs1 hstep
            go_wp2
            clear z0 z1 z2 z3 z4 z5 z6 z7 z8 z9 z10 z11 zf
            generalize ((((((((((((w3.setCell ⟨w.heap.size, 0, none⟩ (.bool S'.S.s)).setCell ⟨w.heap.size, 1, none⟩ (.slice S'.S.A S'.S.n S'.S.c)).setCell ⟨w.heap.size, 2, none⟩ (.int .i64 S'.S.e)).setCell ⟨w.heap.size, 3, none⟩ (.bool S'.W.s)).setCell ⟨w.heap.size, 4, none⟩ (.slice S'.W.A S'.W.n S'.W.c)).setCell ⟨w.heap.size, 5, none⟩ (.int .i64 S'.W.e)).setCell ⟨w.heap.size, 6, none⟩ (.bool S'.C.s)).setCell ⟨w.heap.size, 7, none⟩ (.slice S'.C.A S'.C.n S'.C.c)).setCell ⟨w.heap.size, 8, none⟩ (.int .i64 S'.C.e)).setCell ⟨w.heap.size, 9, none⟩ (.bool S'.A.s)).setCell ⟨w.heap.size, 10, none⟩ (.slice S'.A.A S'.A.n S'.A.c)).setCell ⟨w.heap.size, 11, none⟩ (.int .i64 S'.A.e)) = w4 at *
            go_roundw
            case rel => exact ⟨i + 1, S', _, by first | rfl | (congr 1; omega) | go_num, rfl, by omega, hX, hY, by omega, hRX.more (Nat.le_refl _) hsX1, hI2⟩
            case measure => first | (simp [intOf]; done) | (simp [intOf]; omega)
          · subst hq0
            have hcode : (zR, (10 : Int)) = (R, code) := by
              have e := hI.out.2.2
              rw [List.drop_eq_getElem_cons hi2, HD.out, foldM_cons, if_neg hs0] at e
              have e2 := H2.out
              rw [← e] at e2
              exact e2
            injection hcode with hR hcd
            subst hR hcd
            clear hs0 hs1 hstep
            go_wp2
            have hX2 : MBox ((((((((((((((((((((((((w3.setCell ⟨w.heap.size, 0, none⟩ (.bool S'.S.s)).setCell ⟨w.heap.size, 1, none⟩ (.slice S'.S.A S'.S.n S'.S.c)).setCell ⟨w.heap.size, 2, none⟩ (.int .i64 S'.S.e)).setCell ⟨w.heap.size, 3, none⟩ (.bool S'.W.s)).setCell ⟨w.heap.size, 4, none⟩ (.slice S'.W.A S'.W.n S'.W.c)).setCell ⟨w.heap.size, 5, none⟩ (.int .i64 S'.W.e)).setCell ⟨w.heap.size, 6, none⟩ (.bool S'.C.s)).setCell ⟨w.heap.size, 7, none⟩ (.slice S'.C.A S'.C.n S'.C.c)).setCell ⟨w.heap.size, 8, none⟩ (.int .i64 S'.C.e)).setCell ⟨w.heap.size, 9, none⟩ (.bool S'.A.s)).setCell ⟨w.heap.size, 10, none⟩ (.slice S'.A.A S'.A.n S'.A.c)).setCell ⟨w.heap.size, 11, none⟩ (.int .i64 S'.A.e)).setCell ⟨w.heap.size, 0, none⟩ (.bool false)).setCell ⟨w.heap.size, 1, none⟩ (.slice none 0 0)).setCell ⟨w.heap.size, 2, none⟩ (.int .i64 0)).setCell ⟨w.heap.size, 3, none⟩ (.bool false)).setCell ⟨w.heap.size, 4, none⟩ (.slice none 0 0)).setCell ⟨w.heap.size, 5, none⟩ (.int .i64 0)).setCell ⟨w.heap.size, 6, none⟩ (.bool false)).setCell ⟨w.heap.size, 7, none⟩ (.slice none 0 0)).setCell ⟨w.heap.size, 8, none⟩ (.int .i64 0)).setCell ⟨w.heap.size, 9, none⟩ (.bool false)).setCell ⟨w.heap.size, 10, none⟩ (.slice none 0 0)).setCell ⟨w.heap.size, 11, none⟩ (.int .i64 0)) w.heap.size ZM := MBox.all hX ZM
            have hY2 : Below w.heap.size w ((((((((((((((((((((((((w3.setCell ⟨w.heap.size, 0, none⟩ (.bool S'.S.s)).setCell ⟨w.heap.size, 1, none⟩ (.slice S'.S.A S'.S.n S'.S.c)).setCell ⟨w.heap.size, 2, none⟩ (.int .i64 S'.S.e)).setCell ⟨w.heap.size, 3, none⟩ (.bool S'.W.s)).setCell ⟨w.heap.size, 4, none⟩ (.slice S'.W.A S'.W.n S'.W.c)).setCell ⟨w.heap.size, 5, none⟩ (.int .i64 S'.W.e)).setCell ⟨w.heap.size, 6, none⟩ (.bool S'.C.s)).setCell ⟨w.heap.size, 7, none⟩ (.slice S'.C.A S'.C.n S'.C.c)).setCell ⟨w.heap.size, 8, none⟩ (.int .i64 S'.C.e)).setCell ⟨w.heap.size, 9, none⟩ (.bool S'.A.s)).setCell ⟨w.heap.size, 10, none⟩ (.slice S'.A.A S'.A.n S'.A.c)).setCell ⟨w.heap.size, 11, none⟩ (.int .i64 S'.A.e)).setCell ⟨w.heap.size, 0, none⟩ (.bool false)).setCell ⟨w.heap.size, 1, none⟩ (.slice none 0 0)).setCell ⟨w.heap.size, 2, none⟩ (.int .i64 0)).setCell ⟨w.heap.size, 3, none⟩ (.bool false)).setCell ⟨w.heap.size, 4, none⟩ (.slice none 0 0)).setCell ⟨w.heap.size, 5, none⟩ (.int .i64 0)).setCell ⟨w.heap.size, 6, none⟩ (.bool false)).setCell ⟨w.heap.size, 7, none⟩ (.slice none 0 0)).setCell ⟨w.heap.size, 8, none⟩ (.int .i64 0)).setCell ⟨w.heap.size, 9, none⟩ (.bool false)).setCell ⟨w.heap.size, 10, none⟩ (.slice none 0 0)).setCell ⟨w.heap.size, 11, none⟩ (.int .i64 0)) := below_all hY (Nat.le_refl _) ZM
            clear z0 z1 z2 z3 z4 z5 z6 z7 z8 z9 z10 z11 zf hX hY
            generalize ((((((((((((((((((((((((w3.setCell ⟨w.heap.size, 0, none⟩ (.bool S'.S.s)).setCell ⟨w.heap.size, 1, none⟩ (.slice S'.S.A S'.S.n S'.S.c)).setCell ⟨w.heap.size, 2, none⟩ (.int .i64 S'.S.e)).setCell ⟨w.heap.size, 3, none⟩ (.bool S'.W.s)).setCell ⟨w.heap.size, 4, none⟩ (.slice S'.W.A S'.W.n S'.W.c)).setCell ⟨w.heap.size, 5, none⟩ (.int .i64 S'.W.e)).setCell ⟨w.heap.size, 6, none⟩ (.bool S'.C.s)).setCell ⟨w.heap.size, 7, none⟩ (.slice S'.C.A S'.C.n S'.C.c)).setCell ⟨w.heap.size, 8, none⟩ (.int .i64 S'.C.e)).setCell ⟨w.heap.size, 9, none⟩ (.bool S'.A.s)).setCell ⟨w.heap.size, 10, none⟩ (.slice S'.A.A S'.A.n S'.A.c)).setCell ⟨w.heap.size, 11, none⟩ (.int .i64 S'.A.e)).setCell ⟨w.heap.size, 0, none⟩ (.bool false)).setCell ⟨w.heap.size, 1, none⟩ (.slice none 0 0)).setCell ⟨w.heap.size, 2, none⟩ (.int .i64 0)).setCell ⟨w.heap.size, 3, none⟩ (.bool false)).setCell ⟨w.heap.size, 4, none⟩ (.slice none 0 0)).setCell ⟨w.heap.size, 5, none⟩ (.int .i64 0)).setCell ⟨w.heap.size, 6, none⟩ (.bool false)).setCell ⟨w.heap.size, 7, none⟩ (.slice none 0 0)).setCell ⟨w.heap.size, 8, none⟩ (.int .i64 0)).setCell ⟨w.heap.size, 9, none⟩ (.bool false)).setCell ⟨w.heap.size, 10, none⟩ (.slice none 0 0)).setCell ⟨w.heap.size, 11, none⟩ (.int .i64 0)) = U at *
            obtain ⟨M, hMe⟩ : ∃ M : Mv, M = ZM := ⟨_, rfl⟩
            rw [← hMe] at hX2
            obtain ⟨⟨k0, k1, k2, k3, k4, k5, k6, k7, k8, k9, k10, k11⟩, kf⟩ := MBox.cells hX2
            refine bodyPost_ret (v := .tuple #[.agg #[.bool M.S.s, .slice M.S.A M.S.n M.S.c, .int .i64 M.S.e, .bool M.W.s, .slice M.W.A M.W.n M.W.c, .int .i64 M.W.e, .bool M.C.s, .slice M.C.A M.C.n M.C.c, .int .i64 M.C.e, .bool M.A.s, .slice M.A.A M.A.n M.A.c, .int .i64 M.A.e], .int .i64 10]) (by simp [results, Tryd.results30, go_sem, k0, k1, k2, k3, k4, k5, k6, k7, k8, k9, k10, k11]) rfl ⟨M, rfl, hY2, ?_, ?_⟩
            · rw [hMe]
              exact IsM.zero
            · rw [hMe]
              exact ZM_rows ..
        · have hin2 : ms.length ≤ i := by have := HL.out; omega
          have hcode : (R', (0 : Int)) = (R, code) := by
            have e := hI.out.2.2
            rw [List.drop_eq_nil_of_le hin2] at e
            have e2 := H2.out
            rw [← e] at e2
            exact e2
          injection hcode with hR hcd
          subst hR hcd
          have HI := Lib.hid hI.out.1
          clear hI hLr
          obtain ⟨⟨z0, z1, z2, z3, z4, z5, z6, z7, z8, z9, z10, z11⟩, zf⟩ := MBox.cells hS1
          go_wp2
          have hX2 : MBox ((((((((((((wr.setCell ⟨w.heap.size, 0, none⟩ (.bool S.S.s)).setCell ⟨w.heap.size, 1, none⟩ (.slice S.S.A S.S.n S.S.c)).setCell ⟨w.heap.size, 2, none⟩ (.int .i64 S.S.e)).setCell ⟨w.heap.size, 3, none⟩ (.bool S.W.s)).setCell ⟨w.heap.size, 4, none⟩ (.slice S.W.A S.W.n S.W.c)).setCell ⟨w.heap.size, 5, none⟩ (.int .i64 S.W.e)).setCell ⟨w.heap.size, 6, none⟩ (.bool S.C.s)).setCell ⟨w.heap.size, 7, none⟩ (.slice S.C.A S.C.n S.C.c)).setCell ⟨w.heap.size, 8, none⟩ (.int .i64 S.C.e)).setCell ⟨w.heap.size, 9, none⟩ (.bool S.A.s)).setCell ⟨w.heap.size, 10, none⟩ (.slice S.A.A S.A.n S.A.c)).setCell ⟨w.heap.size, 11, none⟩ (.int .i64 S.A.e)) w.heap.size S := MBox.all hS1 S
          have hY2 : Below w.heap.size w ((((((((((((wr.setCell ⟨w.heap.size, 0, none⟩ (.bool S.S.s)).setCell ⟨w.heap.size, 1, none⟩ (.slice S.S.A S.S.n S.S.c)).setCell ⟨w.heap.size, 2, none⟩ (.int .i64 S.S.e)).setCell ⟨w.heap.size, 3, none⟩ (.bool S.W.s)).setCell ⟨w.heap.size, 4, none⟩ (.slice S.W.A S.W.n S.W.c)).setCell ⟨w.heap.size, 5, none⟩ (.int .i64 S.W.e)).setCell ⟨w.heap.size, 6, none⟩ (.bool S.C.s)).setCell ⟨w.heap.size, 7, none⟩ (.slice S.C.A S.C.n S.C.c)).setCell ⟨w.heap.size, 8, none⟩ (.int .i64 S.C.e)).setCell ⟨w.heap.size, 9, none⟩ (.bool S.A.s)).setCell ⟨w.heap.size, 10, none⟩ (.slice S.A.A S.A.n S.A.c)).setCell ⟨w.heap.size, 11, none⟩ (.int .i64 S.A.e)) := below_all hb (Nat.le_refl _) S
          have hRX : MRows ((((((((((((wr.setCell ⟨w.heap.size, 0, none⟩ (.bool S.S.s)).setCell ⟨w.heap.size, 1, none⟩ (.slice S.S.A S.S.n S.S.c)).setCell ⟨w.heap.size, 2, none⟩ (.int .i64 S.S.e)).setCell ⟨w.heap.size, 3, none⟩ (.bool S.W.s)).setCell ⟨w.heap.size, 4, none⟩ (.slice S.W.A S.W.n S.W.c)).setCell ⟨w.heap.size, 5, none⟩ (.int .i64 S.W.e)).setCell ⟨w.heap.size, 6, none⟩ (.bool S.C.s)).setCell ⟨w.heap.size, 7, none⟩ (.slice S.C.A S.C.n S.C.c)).setCell ⟨w.heap.size, 8, none⟩ (.int .i64 S.C.e)).setCell ⟨w.heap.size, 9, none⟩ (.bool S.A.s)).setCell ⟨w.heap.size, 10, none⟩ (.slice S.A.A S.A.n S.A.c)).setCell ⟨w.heap.size, 11, none⟩ (.int .i64 S.A.e)) (w.heap.size + 1) wr.heap.size S := rows_all hRS (g := w.heap.size) (.inl (by omega)) S
          have hsX : ((((((((((((wr.setCell ⟨w.heap.size, 0, none⟩ (.bool S.S.s)).setCell ⟨w.heap.size, 1, none⟩ (.slice S.S.A S.S.n S.S.c)).setCell ⟨w.heap.size, 2, none⟩ (.int .i64 S.S.e)).setCell ⟨w.heap.size, 3, none⟩ (.bool S.W.s)).setCell ⟨w.heap.size, 4, none⟩ (.slice S.W.A S.W.n S.W.c)).setCell ⟨w.heap.size, 5, none⟩ (.int .i64 S.W.e)).setCell ⟨w.heap.size, 6, none⟩ (.bool S.C.s)).setCell ⟨w.heap.size, 7, none⟩ (.slice S.C.A S.C.n S.C.c)).setCell ⟨w.heap.size, 8, none⟩ (.int .i64 S.C.e)).setCell ⟨w.heap.size, 9, none⟩ (.bool S.A.s)).setCell ⟨w.heap.size, 10, none⟩ (.slice S.A.A S.A.n S.A.c)).setCell ⟨w.heap.size, 11, none⟩ (.int .i64 S.A.e)).heap.size = wr.heap.size := size_all S
          have hsX1 : wr.heap.size ≤ ((((((((((((wr.setCell ⟨w.heap.size, 0, none⟩ (.bool S.S.s)).setCell ⟨w.heap.size, 1, none⟩ (.slice S.S.A S.S.n S.S.c)).setCell ⟨w.heap.size, 2, none⟩ (.int .i64 S.S.e)).setCell ⟨w.heap.size, 3, none⟩ (.bool S.W.s)).setCell ⟨w.heap.size, 4, none⟩ (.slice S.W.A S.W.n S.W.c)).setCell ⟨w.heap.size, 5, none⟩ (.int .i64 S.W.e)).setCell ⟨w.heap.size, 6, none⟩ (.bool S.C.s)).setCell ⟨w.heap.size, 7, none⟩ (.slice S.C.A S.C.n S.C.c)).setCell ⟨w.heap.size, 8, none⟩ (.int .i64 S.C.e)).setCell ⟨w.heap.size, 9, none⟩ (.bool S.A.s)).setCell ⟨w.heap.size, 10, none⟩ (.slice S.A.A S.A.n S.A.c)).setCell ⟨w.heap.size, 11, none⟩ (.int .i64 S.A.e)).heap.size := Nat.le_of_eq hsX.symm
          clear z0 z1 z2 z3 z4 z5 z6 z7 z8 z9 z10 z11 zf hsX
          generalize ((((((((((((wr.setCell ⟨w.heap.size, 0, none⟩ (.bool S.S.s)).setCell ⟨w.heap.size, 1, none⟩ (.slice S.S.A S.S.n S.S.c)).setCell ⟨w.heap.size, 2, none⟩ (.int .i64 S.S.e)).setCell ⟨w.heap.size, 3, none⟩ (.bool S.W.s)).setCell ⟨w.heap.size, 4, none⟩ (.slice S.W.A S.W.n S.W.c)).setCell ⟨w.heap.size, 5, none⟩ (.int .i64 S.W.e)).setCell ⟨w.heap.size, 6, none⟩ (.bool S.C.s)).setCell ⟨w.heap.size, 7, none⟩ (.slice S.C.A S.C.n S.C.c)).setCell ⟨w.heap.size, 8, none⟩ (.int .i64 S.C.e)).setCell ⟨w.heap.size, 9, none⟩ (.bool S.A.s)).setCell ⟨w.heap.size, 10, none⟩ (.slice S.A.A S.A.n S.A.c)).setCell ⟨w.heap.size, 11, none⟩ (.int .i64 S.A.e)) = U at *
          obtain ⟨⟨k0, k1, k2, k3, k4, k5, k6, k7, k8, k9, k10, k11⟩, kf⟩ := MBox.cells hX2
          exact bodyPost_ret (v := .tuple #[.agg #[.bool S.S.s, .slice S.S.A S.S.n S.S.c, .int .i64 S.S.e, .bool S.W.s, .slice S.W.A S.W.n S.W.c, .int .i64 S.W.e, .bool S.C.s, .slice S.C.A S.C.n S.C.c, .int .i64 S.C.e, .bool S.A.s, .slice S.A.A S.A.n S.A.c, .int .i64 S.A.e], .int .i64 0]) (by simp [results, Tryd.results30, go_sem, k0, k1, k2, k3, k4, k5, k6, k7, k8, k9, k10, k11]) rfl ⟨S, rfl, hY2, HI.out, hRX.more (by omega) hsX1⟩
end Ma
end Go.Proofs.YtlbkepiflhchdaaDoor

namespace Go.Proofs.YtlbkepiflhchdaaDoor
open Go.RowKit
namespace Ma
open Dp Dy
theorem sumM_codes {ms : List Mv} {R : Nat → Dn} {code : Int} (h : sumM ms = (R, code)) : MayR R := by
  unfold sumM at h
  split at h
  · injection h with h1 h2
    subst h1
    exact zR_may
  · split at h
    · injection h with h1 h2
      subst h1
      exact zR_may
    · split at h
      · rename_i S hS
        injection h with h1 h2
        subst h1
        have key : ∀ (l : List Mv) (R S : Nat → Dn), MayR R → foldM R l = some S → MayR S := by
          intro l
          induction l with
          | nil =>
            intro R S hR hS
            simp only [foldM, Option.some.injEq] at hS
            subst hS
            exact hR
          | cons m l ih =>
            intro R S _ hS
            rw [foldM_cons] at hS
            split at hS
            · exact ih _ _ (fun x _ => add_may ..) hS
            · cases hS
        exact key _ _ _ zR_may hS
      · injection h with h1 h2
        subst h1
        exact zR_may
/-- The sum of three. -/
theorem three_law {w : World} {lo hi : Nat} {a b c x : Mv} (hA : MRows w lo hi a) (hB : MRows w lo hi b) (hC : MRows w lo hi c) {X S T : Nat → Dn} {h i : Int}
    (hx : addM a b = (X, 0)) (hX : IsM X x) (hs : sumM [a, b, c] = (S, h)) (ht : addM x c = (T, i)) : h = i ∧ ∀ j, j < 4 → S j = T j := by
  obtain ⟨ma, mb, hj⟩ := addM_zero hx
  have mX : MayR X := by have := addM_may a b; rw [hx] at this; exact this
  have ia := IsM.of hA ma
  have ib := IsM.of hB mb
  have ha := dnM_may hA ma
  have hb := dnM_may hB mb
  unfold sumM at hs
  rw [if_neg (by simp)] at hs
  by_cases mc : c.may
  · rw [if_neg (by
      rintro ⟨m, hm, hn⟩
      simp only [List.mem_cons, List.not_mem_nil, or_false] at hm
      rcases hm with rfl | rfl | rfl
      · exact hn ma
      · exact hn mb
      · exact hn mc)] at hs
    have e1 : ∀ j, j < 4 → addD (zR j) (dnM a j) = (dnM a j, 0) := fun j hj4 => zero_add (ha j hj4)
    have e2 : ∀ j, j < 4 → addD ((addD (zR j) (dnM a j)).1) (dnM b j) = (X j, 0) := fun j hj4 => by
      rw [e1 j hj4]
      show addD (dnM a j) (dnM b j) = _
      rw [← ia.add ib ha hb hj4]
      exact hj j hj4
    rw [foldM_cons, if_pos fun j hj4 => by rw [e1 j hj4], foldM_cons, if_pos fun j hj4 => by rw [e2 j hj4], foldM_cons] at hs
    rcases add_step hC mc hX mX ht with ⟨rfl, k1, k2⟩ | ⟨rfl, k1, rfl⟩
    · rw [if_pos fun j hj4 => by
        show (addD ((addD ((addD (zR j) (dnM a j)).1) (dnM b j)).1) (dnM c j)).2 = 0
        rw [e2 j hj4]
        exact k1 j hj4] at hs
      simp only [foldM] at hs
      injection hs with h1 h2
      subst h1
      exact ⟨h2.symm, fun j hj4 => by
        rw [k2 j hj4]
        show (addD ((addD ((addD (zR j) (dnM a j)).1) (dnM b j)).1) (dnM c j)).1 = _
        rw [e2 j hj4]⟩
    · rw [if_neg fun k => k1 fun j hj4 => by
        have := k j hj4
        rw [e2 j hj4] at this
        exact this] at hs
      injection hs with h1 h2
      subst h1
      exact ⟨h2.symm, fun _ _ => rfl⟩
  · rw [if_pos ⟨c, by simp, mc⟩] at hs
    unfold addM at ht
    rw [if_neg fun k => mc k.2] at ht
    injection hs with h1 h2
    injection ht with h3 h4
    subst h1 h3
    exact ⟨h2.symm.trans h4, fun _ _ => rfl⟩
end Ma
end Go.Proofs.YtlbkepiflhchdaaDoor

namespace Go.Proofs.YtlbkepiflhchdaaDoor
namespace Ma
open Dp Dy
/-- One more number: the least and the greatest one. -/
def stepE : Option (Dn × Dn) → Dn → Option (Dn × Dn)
  | none, x => some (x, x)
  | some (lo, hi), x => some (if cmpD x lo < 0 then x else lo, if 0 < cmpD x hi then x else hi)
/-- The least and the greatest one of numbers. -/
def endsL (l : List Dn) : Option (Dn × Dn) := l.foldl stepE none
/-- How far they are apart. -/
def farL (l : List Dn) : Dn × Int :=
  match endsL l with
  | none => (Dn.zero, 6)
  | some (lo, hi) => subD hi lo
/-- The numbers of masses. -/
noncomputable def colM (x : Nat) (ms : List Mv) : List Dn := ms.map fun m => dnM m x
open Classical in
/-- How far masses are apart. -/
noncomputable def farM (ms : List Mv) : (Dn × Dn) × Int :=
  if 4096 < ms.length then ((Dn.zero, Dn.zero), 4) else if ∃ m ∈ ms, ¬ m.may then ((Dn.zero, Dn.zero), 8)
  else if (farL (colM 2 ms)).2 = 0 ∧ (farL (colM 3 ms)).2 = 0 then (((farL (colM 2 ms)).1, (farL (colM 3 ms)).1), 0)
  else ((Dn.zero, Dn.zero), if ms = [] then 6 else 10)
theorem endsL_nil : endsL [] = none := rfl
theorem endsL_snoc (l : List Dn) (x : Dn) : endsL (l ++ [x]) = stepE (endsL l) x := by simp [endsL]
theorem endsL_take (l : List Dn) (i : Nat) (h : i < l.length) : endsL (l.take (i + 1)) = stepE (endsL (l.take i)) l[i] := by
  have e : l.take (i + 1) = l.take i ++ [l[i]] := by rw [List.take_add_one]; simp [h]
  rw [e, endsL_snoc]
theorem stepE_some (p : Option (Dn × Dn)) (x : Dn) : ∃ q, stepE p x = some q := by
  cases p with
  | none => exact ⟨_, rfl⟩
  | some q => exact ⟨_, rfl⟩
theorem endsL_some {l : List Dn} (h : l ≠ []) : ∃ q, endsL l = some q := by
  obtain ⟨l', x, rfl⟩ : ∃ l' x, l = l' ++ [x] := ⟨l.dropLast, l.getLast h, (List.dropLast_concat_getLast h).symm⟩
  rw [endsL_snoc]
  exact stepE_some _ _
theorem farL_nil : farL [] = (Dn.zero, 6) := rfl
theorem farL_two {l : List Dn} (h : l ≠ []) : (farL l).2 = 0 ∨ farL l = (Dn.zero, 10) := by
  obtain ⟨⟨lo, hi⟩, hq⟩ := endsL_some h
  unfold farL
  rw [hq]
  exact sub_cases _ _
theorem farL_may (l : List Dn) : (farL l).1.May := by
  unfold farL
  split
  · exact zero_may
  · exact sub_may _ _
theorem farM_may (ms : List Mv) : (farM ms).1.1.May ∧ (farM ms).1.2.May := by
  unfold farM
  split
  · exact ⟨zero_may, zero_may⟩
  split
  · exact ⟨zero_may, zero_may⟩
  split
  · exact ⟨farL_may _, farL_may _⟩
  · exact ⟨zero_may, zero_may⟩
theorem cmp_self (a : Dn) : cmpD a a = 0 := by
  rcases cmp_spec a a (Nat.le_refl _) (Nat.le_refl _) with h | h | h <;> omega
/-- The least and the greatest one are of them, and bound them. -/
theorem ends_spec (K : Nat) : ∀ (l : List Dn) {lo hi : Dn}, endsL l = some (lo, hi) → (∀ x ∈ l, x.e ≤ K) →
    lo ∈ l ∧ hi ∈ l ∧ ∀ x ∈ l, vl lo K ≤ vl x K ∧ vl x K ≤ vl hi K := by
  intro l
  induction hn : l.length generalizing l with
  | zero =>
    intro lo hi h
    obtain rfl : l = [] := List.eq_nil_of_length_eq_zero hn
    cases h
  | succ n ih =>
    intro lo hi h hK
    have hne : l ≠ [] := by intro e; rw [e] at hn; cases hn
    obtain ⟨l', x, rfl⟩ : ∃ l' x, l = l' ++ [x] := ⟨l.dropLast, l.getLast hne, (List.dropLast_concat_getLast hne).symm⟩
    rw [endsL_snoc] at h
    have hl' : l'.length = n := by simpa using hn
    have hKx : x.e ≤ K := hK x (by simp)
    cases hp : endsL l' with
    | none =>
      have hnil : l' = [] := by
        rcases Classical.em (l' = []) with e | e
        · exact e
        · obtain ⟨q, hq⟩ := endsL_some e
          rw [hq] at hp
          cases hp
      subst hnil
      rw [hp] at h
      injection h with h
      injection h with h1 h2
      subst h1 h2
      simp
    | some q =>
      obtain ⟨lo', hi'⟩ := q
      rw [hp] at h
      obtain ⟨m1, m2, m3⟩ := ih l' hl' hp fun y hy => hK y (by simp [hy])
      have k1 := hK lo' (by simp [m1])
      have k2 := hK hi' (by simp [m2])
      have hlh := m3 hi' m2
      injection h with h
      injection h with h1 h2
      have c1 := cmp_spec x lo' hKx k1
      have c2 := cmp_spec x hi' hKx k2
      have hlo : lo ∈ l' ++ [x] ∧ vl lo K ≤ vl x K ∧ vl lo K ≤ vl lo' K := by
        split at h1
        · subst h1
          exact ⟨by simp, by omega, by omega⟩
        · subst h1
          exact ⟨by simp [m1], by omega, by omega⟩
      have hhi : hi ∈ l' ++ [x] ∧ vl x K ≤ vl hi K ∧ vl hi' K ≤ vl hi K := by
        split at h2
        · subst h2
          exact ⟨by simp, by omega, by omega⟩
        · subst h2
          exact ⟨by simp [m2], by omega, by omega⟩
      refine ⟨hlo.1, hhi.1, fun y hy => ?_⟩
      rcases List.mem_append.1 hy with hy | hy
      · have := m3 y hy
        omega
      · obtain rfl : y = x := by simpa using hy
        omega
end Ma
end Go.Proofs.YtlbkepiflhchdaaDoor

namespace Go.Proofs.YtlbkepiflhchdaaDoor
namespace Ma
open Dp Dy
theorem IsM.dnm {R : Nat → Dn} {m : Mv} (h : IsM R m) : ∀ j, j < 4 → dnM m j = R j := fun j hj => by
  obtain ⟨h1, h2, h3⟩ := h j hj
  unfold dnM
  rw [h1, h2, h3, dn_of]
theorem code0 {x : Dn × Int} (h : x.2 = 0) : x = (x.1, 0) := Prod.ext rfl h
theorem back_add {m A d : Dn} (hm : m.May) (h : subD m A = (d, 0)) : addD A d = (m, 0) := by
  have e := sub_vl (a := m) (b := A) (by rw [h])
  rw [h] at e
  refine add_of hm (K := max m.e A.e) (Nat.le_max_right _ _) e.1 (Nat.le_max_left _ _) ?_
  have := e.2 (max m.e A.e) (Nat.le_max_left _ _) (Nat.le_max_right _ _)
  simp only at this
  omega
theorem mid_law {A B m d : Dn} (h : midD A B = ((m, d), 0)) : ∃ s, addD A B = (s, 0) ∧ addD m m = (s, 0) ∧ subD m A = (d, 0) ∧ addD A d = (m, 0) ∧ m.May ∧ d.May := by
  have hm := mid_may h
  unfold midD at h
  split at h
  · rename_i hc
    obtain ⟨c1, c2, c3⟩ := hc
    injection h with h _
    injection h with h1 h2
    have hs : subD m A = (d, 0) := by
      rw [← h1, ← h2, ← c3]
    refine ⟨(addD A B).1, by rw [← c1], ?_, hs, back_add hm.1 hs, hm⟩
    have := (half_twice (add_may A B) c2).1
    rw [h1] at this
    exact this
  · injection h with _ h
    omega
theorem meet_zero {a b : Mv} {mR lR : Nat → Dn} (h : meetM a b = ((mR, lR), 0)) :
    (a.may ∧ b.may) ∧ midD (dnM a 2) (dnM b 2) = ((mR 2, lR 2), 0) ∧ midD (dnM a 3) (dnM b 3) = ((mR 3, lR 3), 0) ∧ mR 0 = dnM b 0 ∧ mR 1 = dnM b 1 ∧ lR 0 = Dn.zero ∧ lR 1 = Dn.zero := by
  unfold meetM at h
  split at h
  · rename_i hm
    split at h
    · rename_i hc
      injection h with h _
      injection h with h1 h2
      subst h1 h2
      refine ⟨hm, ?_, ?_, rfl, rfl, rfl, rfl⟩
      · rw [← hc.1]
        rfl
      · rw [← hc.2]
        rfl
    · injection h with _ h
      omega
  · injection h with _ h
    omega
theorem meet_codes {a b : Mv} {mR lR : Nat → Dn} {code : Int} (h : meetM a b = ((mR, lR), code)) : code = 0 ∨ (mR = zR ∧ lR = zR ∧ code ≠ 0) := by
  unfold meetM at h
  split at h
  · split at h
    · injection h with _ h
      exact .inl h.symm
    · injection h with h h'
      injection h with h1 h2
      exact .inr ⟨h1.symm, h2.symm, by omega⟩
  · injection h with h h'
    injection h with h1 h2
    exact .inr ⟨h1.symm, h2.symm, by omega⟩
section
variable {w : World} {lo hi lo' hi' : Nat} {a b m d : Mv} {mR lR : Nat → Dn}
/-- Whoever asks comes to the middle, when it is done. -/
theorem done_law (hA : MRows w lo hi a) (h : meetM a b = ((mR, lR), 0)) (hd : IsM lR d) :
    ∃ T, doneM a d = (T, 0) ∧ T 0 = dnM a 0 ∧ T 1 = dnM a 1 ∧ T 2 = mR 2 ∧ T 3 = mR 3 := by
  obtain ⟨hm, h2, h3, _, _, l0, l1⟩ := meet_zero h
  obtain ⟨_, _, _, _, k2, _, n2⟩ := mid_law h2
  obtain ⟨_, _, _, _, k3, _, n3⟩ := mid_law h3
  have hl : MayR lR := four (l0 ▸ zero_may) (l1 ▸ zero_may) n2 n3
  have mA := dnM_may hA hm.1
  have hS : IsM lR ⟨ZM.S, ZM.W, d.C, d.A⟩ := four (by rw [l0]; exact Is.zero) (by rw [l1]; exact Is.zero) (hd 2 (by decide)) (hd 3 (by decide))
  obtain ⟨T, hT, hTx⟩ := addM_of (T := fun x => if x = 0 then dnM a 0 else if x = 1 then dnM a 1 else mR x) (IsM.of hA hm.1) hS mA hl
    (four (by rw [l0]; exact add_zero (mA 0 (by decide))) (by rw [l1]; exact add_zero (mA 1 (by decide))) k2 k3)
  refine ⟨T, ?_, hTx 0 (by decide), hTx 1 (by decide), hTx 2 (by decide), hTx 3 (by decide)⟩
  unfold doneM
  rw [if_pos ⟨hm.1, hd.may hl⟩]
  exact hT
theorem addM_eq {a b a' b' : Mv} {W I : Nat → Dn} {g h : Int} (hm : a.may ∧ b.may) (hm' : a'.may ∧ b'.may) (e : ∀ j, j < 4 → xAdd a b j = xAdd a' b' j) (hw : addM a b = (W, g)) (hi : addM a' b' = (I, h)) : h = g ∧ ∀ j, j < 4 → I j = W j := by
  unfold addM at hw hi
  rw [if_pos hm] at hw
  rw [if_pos hm'] at hi
  by_cases hc : ∀ j, j < 4 → (xAdd a b j).2 = 0
  · rw [if_pos hc] at hw
    rw [if_pos (fun j hj => by rw [← e j hj]; exact hc j hj)] at hi
    injection hw with w1 w2
    injection hi with i1 i2
    subst w1 i1
    exact ⟨by omega, fun j hj => by show (xAdd a' b' j).1 = (xAdd a b j).1; rw [e j hj]⟩
  · rw [if_neg hc] at hw
    rw [if_neg (fun k => hc fun j hj => by rw [e j hj]; exact k j hj)] at hi
    injection hw with w1 w2
    injection hi with i1 i2
    subst w1 i1
    exact ⟨by omega, fun _ _ => rfl⟩
/-- The whole is what it was. -/
theorem whole_mid {x : Mv} {T W I : Nat → Dn} {g k : Int} (hA : MRows w lo hi a) (hB : MRows w lo' hi' b) (h : meetM a b = ((mR, lR), 0)) (hm : IsM mR m) (hx : IsM T x)
    (t : T 0 = dnM a 0 ∧ T 1 = dnM a 1 ∧ T 2 = mR 2 ∧ T 3 = mR 3) (hw : addM a b = (W, g)) (hi : addM x m = (I, k)) : k = g ∧ ∀ j, j < 4 → I j = W j := by
  obtain ⟨hy, h2, h3, e0, e1, _, _⟩ := meet_zero h
  obtain ⟨s2, p2, q2, _, _, n2, _⟩ := mid_law h2
  obtain ⟨s3, p3, q3, _, _, n3, _⟩ := mid_law h3
  obtain ⟨t0, t1, t2, t3⟩ := t
  have mA := dnM_may hA hy.1
  have mB := dnM_may hB hy.2
  have hT : MayR T := four (t0 ▸ mA 0 (by decide)) (t1 ▸ mA 1 (by decide)) (t2 ▸ n2) (t3 ▸ n3)
  have hM : MayR mR := four (e0 ▸ mB 0 (by decide)) (e1 ▸ mB 1 (by decide)) n2 n3
  refine addM_eq hy ⟨hx.may hT, hm.may hM⟩ (fun j hj => ?_) hw hi
  rw [(IsM.of hA hy.1).add (IsM.of hB hy.2) mA mB hj, hx.add hm hT hM hj]
  revert j
  exact four (by rw [t0, e0]) (by rw [t1, e1]) (by rw [t2, q2, p2]) (by rw [t3, q3, p3])
theorem sum3 {a b c : Mv} {S : Nat → Dn} (h : sumM [a, b, c] = (S, 0)) : ∀ j, j < 4 → ∃ p q, addD Dn.zero (dnM a j) = (p, 0) ∧ addD p (dnM b j) = (q, 0) ∧ addD q (dnM c j) = (S j, 0) := by
  unfold sumM at h
  rw [if_neg (by simp)] at h
  split at h
  · injection h with _ h
    omega
  · split at h
    · rename_i R hf
      injection h with h _
      subst h
      rw [foldM_cons] at hf
      split at hf
      · rename_i c1
        rw [foldM_cons] at hf
        split at hf
        · rename_i c2
          rw [foldM_cons] at hf
          split at hf
          · rename_i c3
            injection hf with hf
            subst hf
            intro j hj
            exact ⟨(addD Dn.zero (dnM a j)).1, (addD (addD Dn.zero (dnM a j)).1 (dnM b j)).1, code0 (c1 j hj), code0 (c2 j hj), code0 (c3 j hj)⟩
          · cases hf
        · cases hf
      · cases hf
    · injection h with _ h
      omega
/-- Ahead of it the whole is so with what lacks. -/
theorem under_law {W S : Nat → Dn} (hA : MRows w lo hi a) (hB : MRows w lo' hi' b) (h : meetM a b = ((mR, lR), 0)) (hM : ∀ j, j < 4 → dnM m j = mR j) (hD : ∀ j, j < 4 → dnM d j = lR j)
    (hw : addM a b = (W, 0)) (hs : sumM [a, m, d] = (S, 0)) : ∀ j, j < 4 → S j = W j := by
  obtain ⟨hy, h2, h3, e0, e1, l0, l1⟩ := meet_zero h
  have mA := dnM_may hA hy.1
  have mB := dnM_may hB hy.2
  have hW := (addM_zero hw).2.2
  have key : ∀ {A B M D s r : Dn}, A.May → addD A B = (s, 0) → (∃ p q, addD Dn.zero A = (p, 0) ∧ addD p M = (q, 0) ∧ addD q D = (r, 0)) → (∀ K, A.e ≤ K → B.e ≤ K → M.e ≤ K → D.e ≤ K → vl M K + vl D K = vl B K) → r = s := by
    intro A B M D s r hAm ha ⟨p, q, hp, hq, hr⟩ hv
    rw [zero_add hAm] at hp
    injection hp with hp _
    subst hp
    have v1 := add_vl (a := A) (b := B) (by rw [ha])
    have v2 := add_vl (a := A) (b := M) (by rw [hq])
    have v3 := add_vl (a := q) (b := D) (by rw [hr])
    have m1 := add_may A B
    have m2 := add_may q D
    rw [ha] at v1 m1
    rw [hq] at v2
    rw [hr] at v3 m2
    have b1 := v1.1
    have b2 := v2.1
    have b3 := v3.1
    simp only at b1 b2 b3 m1 m2
    have f1 := v1.2 (A.e + B.e + M.e + D.e) (by omega) (by omega)
    have f2 := v2.2 (A.e + B.e + M.e + D.e) (by omega) (by omega)
    have f3 := v3.2 (A.e + B.e + M.e + D.e) (by omega) (by omega)
    have f4 := hv (A.e + B.e + M.e + D.e) (by omega) (by omega) (by omega) (by omega)
    refine vl_inj m2 m1 (K := A.e + B.e + M.e + D.e) (by omega) (by omega) ?_
    simp only at f1 f2 f3 ⊢
    omega
  have hx : ∀ j, j < 4 → addD (dnM a j) (dnM b j) = (W j, 0) := fun j hj => by
    rw [← (IsM.of hA hy.1).add (IsM.of hB hy.2) mA mB hj]
    exact hW j hj
  have mid : ∀ {A B M D : Dn}, midD A B = ((M, D), 0) → ∀ K, A.e ≤ K → B.e ≤ K → M.e ≤ K → D.e ≤ K → vl M K + vl D K = vl B K := by
    intro A B M D hmd K k1 k2 k3 k4
    obtain ⟨s, p, q, r, _, n, _⟩ := mid_law hmd
    have v1 := add_vl (a := A) (b := B) (by rw [p])
    have v2 := add_vl (a := M) (b := M) (by rw [q])
    have v3 := sub_vl (a := M) (b := A) (by rw [r])
    rw [p] at v1
    rw [q] at v2
    rw [r] at v3
    have f1 := v1.2 K k1 k2
    have f2 := v2.2 K k3 k3
    have f3 := v3.2 K k3 k1
    simp only at f1 f2 f3
    omega
  refine four (key (mA 0 (by decide)) (hx 0 (by decide)) (sum3 hs 0 (by decide)) ?_) (key (mA 1 (by decide)) (hx 1 (by decide)) (sum3 hs 1 (by decide)) ?_) (key (mA 2 (by decide)) (hx 2 (by decide)) (sum3 hs 2 (by decide)) ?_) (key (mA 3 (by decide)) (hx 3 (by decide)) (sum3 hs 3 (by decide)) ?_)
  · rw [hM 0 (by decide), hD 0 (by decide), e0, l0]
    intro K _ _ _ _
    rw [vl_zero]
    omega
  · rw [hM 1 (by decide), hD 1 (by decide), e1, l1]
    intro K _ _ _ _
    rw [vl_zero]
    omega
  · rw [hM 2 (by decide), hD 2 (by decide)]
    exact mid h2
  · rw [hM 3 (by decide), hD 3 (by decide)]
    exact mid h3
end
end Ma
end Go.Proofs.YtlbkepiflhchdaaDoor
