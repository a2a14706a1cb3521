/- mass.Sum: a walk (printed by a program of mine). -/
/- How far numbers are apart: no program in sight. -/
/- headcountlaw06.half and alive: walks (printed by a program of mine). -/
/- Small laws that shorten walks over masses (printed by a program of mine). -/
/- mean.pair, mean.middle: walks (printed by a program of mine). -/
import Derived.Test.YtlbkepiflhchdaaDoorBv08
import Derived.Test.YtlbkepiflhchdaaDoorBv06
namespace Go.Proofs.YtlbkepiflhchdaaDoor
open Go.RowKit
namespace Ma
open Dp Dy
/-- A mass's twelve cells amid a row. -/
def MCells (w : World) (b o : Nat) (m : Mv) : Prop := w.cell? ⟨b, o, none⟩ = some (.bool m.S.s) ∧ w.cell? ⟨b, o + 1, none⟩ = some (.slice m.S.A m.S.n m.S.c) ∧ w.cell? ⟨b, o + 2, none⟩ = some (.int .i64 m.S.e) ∧ w.cell? ⟨b, o + 3, none⟩ = some (.bool m.W.s) ∧ w.cell? ⟨b, o + 4, none⟩ = some (.slice m.W.A m.W.n m.W.c) ∧ w.cell? ⟨b, o + 5, none⟩ = some (.int .i64 m.W.e) ∧ w.cell? ⟨b, o + 6, none⟩ = some (.bool m.C.s) ∧ w.cell? ⟨b, o + 7, none⟩ = some (.slice m.C.A m.C.n m.C.c) ∧ w.cell? ⟨b, o + 8, none⟩ = some (.int .i64 m.C.e) ∧ w.cell? ⟨b, o + 9, none⟩ = some (.bool m.A.s) ∧ w.cell? ⟨b, o + 10, none⟩ = some (.slice m.A.A m.A.n m.A.c) ∧ w.cell? ⟨b, o + 11, none⟩ = some (.int .i64 m.A.e)
/-- Masses in a row. -/
structure LMs (w : World) (lo hi : Nat) (A : Option Addr) (n : Nat) (ms : List Mv) : Prop where
  len : ms.length = n
  big : n ≤ 9223372036854775807
  row : 0 < n → ∃ b off, A = some ⟨b, off, none⟩ ∧ lo ≤ b ∧ b < hi ∧ ∀ j (h : j < ms.length), MCells w b (off + j * 12) ms[j]
  rows : ∀ j (h : j < ms.length), MRows w lo hi ms[j]
theorem infoM : (Tryd.prog.info? 39).map (fun i => (i.zero, i.size, i.bytes)) = some (some (.agg #[.bool false, .slice none 0 0, .int .i64 0, .bool false, .slice none 0 0, .int .i64 0, .bool false, .slice none 0 0, .int .i64 0, .bool false, .slice none 0 0, .int .i64 0]), 12, 160) := by kernel_rfl
theorem MCells.blk {w w' : World} {b o : Nat} {m : Mv} (h : MCells w b o m) (hk : w'.heap[b]? = w.heap[b]?) : MCells w' b o m := by
  obtain ⟨h0, h1, h2, h3, h4, h5, h6, h7, h8, h9, h10, h11⟩ := h
  exact ⟨by rw [World.cell?_of_block hk]; exact h0, by rw [World.cell?_of_block hk]; exact h1, by rw [World.cell?_of_block hk]; exact h2, by rw [World.cell?_of_block hk]; exact h3, by rw [World.cell?_of_block hk]; exact h4, by rw [World.cell?_of_block hk]; exact h5, by rw [World.cell?_of_block hk]; exact h6, by rw [World.cell?_of_block hk]; exact h7, by rw [World.cell?_of_block hk]; exact h8, by rw [World.cell?_of_block hk]; exact h9, by rw [World.cell?_of_block hk]; exact h10, by rw [World.cell?_of_block hk]; exact h11⟩
theorem LMs.below {w w' : World} {lo hi B : Nat} {A : Option Addr} {n : Nat} {ms : List Mv} (h : LMs w lo hi A n ms) (hb : Below B w w') (hB : hi ≤ B) : LMs w' lo hi A n ms :=
  ⟨h.len, h.big, fun h0 => by
    obtain ⟨b, off, e, h1, h2, hc⟩ := h.row h0
    exact ⟨b, off, e, h1, h2, fun j hj => (hc j hj).blk (hb.block b (by omega))⟩, fun j hj => (h.rows j hj).below hb hB⟩
theorem LMs.more {w : World} {lo hi lo' hi' : Nat} {A : Option Addr} {n : Nat} {ms : List Mv} (h : LMs w lo hi A n ms) (hl : lo' ≤ lo) (hh : hi ≤ hi') : LMs w lo' hi' A n ms :=
  ⟨h.len, h.big, fun h0 => by
    obtain ⟨b, off, e, h1, h2, hc⟩ := h.row h0
    exact ⟨b, off, e, by omega, by omega, hc⟩, fun j hj => (h.rows j hj).more hl hh⟩
open Classical in
noncomputable def foldM : (Nat → Dn) → List Mv → Option (Nat → Dn)
  | R, [] => some R
  | R, m :: l => if ∀ x, x < 4 → (addD (R x) (dnM m x)).2 = 0 then foldM (fun x => (addD (R x) (dnM m x)).1) l else none
open Classical in
/-- What the sum of all is. -/
noncomputable def sumM (ms : List Mv) : (Nat → Dn) × Int :=
  if 4096 < ms.length then (zR, 4) else if ∃ m ∈ ms, ¬ m.may then (zR, 8) else match foldM zR ms with
    | some R => (R, 0)
    | none => (zR, 10)
theorem add_step {w : World} {lo hi : Nat} {S d : Mv} {R R2 : Nat → Dn} {code : Int} (hd : MRows w lo hi d) (hm : d.may) (hS : IsM R S) (hR : MayR R) (h : addM S d = (R2, code)) :
    (code = 0 ∧ (∀ x, x < 4 → (addD (R x) (dnM d x)).2 = 0) ∧ ∀ x, x < 4 → R2 x = (addD (R x) (dnM d x)).1) ∨ (code = 10 ∧ (¬ ∀ x, x < 4 → (addD (R x) (dnM d x)).2 = 0) ∧ R2 = zR) := by
  have key : ∀ x, x < 4 → xAdd S d x = addD (R x) (dnM d x) := fun x hx => hS.add (IsM.of hd hm) hR (dnM_may hd hm) hx
  unfold addM at h
  rw [if_pos ⟨hS.may hR, hm⟩] at h
  by_cases hc : ∀ j, j < 4 → (xAdd S d j).2 = 0
  · rw [if_pos hc] at h
    injection h with h1 h2
    subst h1
    exact .inl ⟨h2.symm, fun x hx => by rw [← key x hx]; exact hc x hx, fun x hx => by rw [← key x hx]⟩
  · rw [if_neg hc] at h
    injection h with h1 h2
    exact .inr ⟨h2.symm, fun k => hc fun j hj => by rw [key j hj]; exact k j hj, h1.symm⟩
open Classical in
theorem foldM_cons (R : Nat → Dn) (m : Mv) (l : List Mv) : foldM R (m :: l) = if ∀ x, x < 4 → (addD (R x) (dnM m x)).2 = 0 then foldM (fun x => (addD (R x) (dnM m x)).1) l else none := rfl
set_option maxHeartbeats 12800000 in
set_option maxRecDepth 100000 in
/-- mass.Sum. -/
theorem MSum_any (w : World) (A : Option Addr) (n c : Nat) (ms : List Mv) (hL : LMs w 0 w.heap.size A n ms) (hn : n ≤ 4096) (hT : Tab w) (R : Nat → Dn) (code : Int) (h : sumM ms = (R, code)) :
    Calls Tryd.prog 30 #[.slice A n c] w fun e w' => ∃ m' : Mv, e = .returned (.tuple #[.agg #[.bool m'.S.s, .slice m'.S.A m'.S.n m'.S.c, .int .i64 m'.S.e, .bool m'.W.s, .slice m'.W.A m'.W.n m'.W.c, .int .i64 m'.W.e, .bool m'.C.s, .slice m'.C.A m'.C.n m'.C.c, .int .i64 m'.C.e, .bool m'.A.s, .slice m'.A.A m'.A.n m'.A.c, .int .i64 m'.A.e], .int .i64 code]) ∧ Below w.heap.size w w' ∧ IsM R m' ∧ MRows w' w.heap.size w'.heap.size m' := by
  have HL := Lib.hid hL.len
  unfold sumM at h
  rw [if_neg (by rw [HL.out]; omega)] at h
  have H := Lib.hid h
  clear h
  obtain ⟨i0, hi0, hz0, hz1, hz2⟩ := info_parts infoM
  generalize hw : w.alloc (.cells #[.bool false, .slice none 0 0, .int .i64 0, .bool false, .slice none 0 0, .int .i64 0, .bool false, .slice none 0 0, .int .i64 0, .bool false, .slice none 0 0, .int .i64 0] 39) = w1
  have hZ1 : MBox w1 w.heap.size ZM := by rw [← hw]; exact heap_alloc_last _ _
  have hb : Below w.heap.size w w1 := by rw [← hw]; exact (Below.refl _ w).alloc (Nat.le_refl _) _
  have l1 : w.heap.size < w1.heap.size := by rw [← hw]; simp
  go_enter Tryd.func30, Tryd.ntmps30
  go_wp2
  try clear hw
  go_loopw [3, 5, 6, 15] (fun ev _ _ iv wr => ∃ i : Nat, iv = .int .i64 i ∧ ev = .int .i64 0 ∧ i ≤ n ∧ MBox wr w.heap.size ZM ∧ Below w.heap.size w wr ∧ w.heap.size < wr.heap.size ∧ Hid (∀ j (h : j < ms.length), j < i → ms[j].may)) (fun _ _ _ iv _ => n - (intOf iv).toNat)
  case atStart => exact ⟨0, rfl, rfl, Nat.zero_le _, hZ1, hb, l1, Lib.hid fun j h hj => absurd hj (Nat.not_lt_zero _)⟩
  case round =>
    clear hZ1 hb l1
    obtain ⟨i, rfl, rfl, hi1, hZ1, hb, l1, hall⟩ := hrel
    have hLr := hL.below hb (Nat.le_refl _)
    by_cases hlt : i < n
    · have hi2 : i < ms.length := by rw [HL.out]; exact hlt
      obtain ⟨b, off, hA, h1, h2, hc⟩ := hLr.row (by omega)
      have hci := hc i hi2
      have hri := hLr.rows i hi2
      obtain ⟨d, hd⟩ : ∃ d, ms[i] = d := ⟨_, rfl⟩
      rw [hd] at hci hri
      have HD := Lib.hid hd
      subst hA
      clear hd hc hLr
      obtain ⟨k0, k1, k2, k3, k4, k5, k6, k7, k8, k9, k10, k11⟩ := hci
      have hwr : IntKind.i64.wrap ((i : Int) + 1) = ((i + 1 : Nat) : Int) := by rw [IntKind.wrap_i64]; omega
      have hBL := (Below.refl wr.heap.size wr).alloc (Nat.le_refl _) (.cells #[.bool d.S.s, .slice d.S.A d.S.n d.S.c, .int .i64 d.S.e, .bool d.W.s, .slice d.W.A d.W.n d.W.c, .int .i64 d.W.e, .bool d.C.s, .slice d.C.A d.C.n d.C.c, .int .i64 d.C.e, .bool d.A.s, .slice d.A.A d.A.n d.A.c, .int .i64 d.A.e] 39)
      have hM2 : MBox (wr.alloc (.cells #[.bool d.S.s, .slice d.S.A d.S.n d.S.c, .int .i64 d.S.e, .bool d.W.s, .slice d.W.A d.W.n d.W.c, .int .i64 d.W.e, .bool d.C.s, .slice d.C.A d.C.n d.C.c, .int .i64 d.C.e, .bool d.A.s, .slice d.A.A d.A.n d.A.c, .int .i64 d.A.e] 39)) wr.heap.size d := heap_alloc_last _ _
      have hZ2 : MBox (wr.alloc (.cells #[.bool d.S.s, .slice d.S.A d.S.n d.S.c, .int .i64 d.S.e, .bool d.W.s, .slice d.W.A d.W.n d.W.c, .int .i64 d.W.e, .bool d.C.s, .slice d.C.A d.C.n d.C.c, .int .i64 d.C.e, .bool d.A.s, .slice d.A.A d.A.n d.A.c, .int .i64 d.A.e] 39)) w.heap.size ZM := box_on hZ1 hBL l1
      have hr2 : MRows (wr.alloc (.cells #[.bool d.S.s, .slice d.S.A d.S.n d.S.c, .int .i64 d.S.e, .bool d.W.s, .slice d.W.A d.W.n d.W.c, .int .i64 d.W.e, .bool d.C.s, .slice d.C.A d.C.n d.C.c, .int .i64 d.C.e, .bool d.A.s, .slice d.A.A d.A.n d.A.c, .int .i64 d.A.e] 39)) 0 (wr.alloc (.cells #[.bool d.S.s, .slice d.S.A d.S.n d.S.c, .int .i64 d.S.e, .bool d.W.s, .slice d.W.A d.W.n d.W.c, .int .i64 d.W.e, .bool d.C.s, .slice d.C.A d.C.n d.C.c, .int .i64 d.C.e, .bool d.A.s, .slice d.A.A d.A.n d.A.c, .int .i64 d.A.e] 39)).heap.size d := (hri.below hBL (by omega)).more (Nat.le_refl _) (by have := hBL.size; omega)
      have hb2 : Below w.heap.size w (wr.alloc (.cells #[.bool d.S.s, .slice d.S.A d.S.n d.S.c, .int .i64 d.S.e, .bool d.W.s, .slice d.W.A d.W.n d.W.c, .int .i64 d.W.e, .bool d.C.s, .slice d.C.A d.C.n d.C.c, .int .i64 d.C.e, .bool d.A.s, .slice d.A.A d.A.n d.A.c, .int .i64 d.A.e] 39)) := hb.trans (hBL.mono (by omega))
      have l2 : wr.heap.size < (wr.alloc (.cells #[.bool d.S.s, .slice d.S.A d.S.n d.S.c, .int .i64 d.S.e, .bool d.W.s, .slice d.W.A d.W.n d.W.c, .int .i64 d.W.e, .bool d.C.s, .slice d.C.A d.C.n d.C.c, .int .i64 d.C.e, .bool d.A.s, .slice d.A.A d.A.n d.A.c, .int .i64 d.A.e] 39)).heap.size := by simp
      generalize hw2 : wr.alloc (.cells #[.bool d.S.s, .slice d.S.A d.S.n d.S.c, .int .i64 d.S.e, .bool d.W.s, .slice d.W.A d.W.n d.W.c, .int .i64 d.W.e, .bool d.C.s, .slice d.C.A d.C.n d.C.c, .int .i64 d.C.e, .bool d.A.s, .slice d.A.A d.A.n d.A.c, .int .i64 d.A.e] 39) = w2 at *
      obtain ⟨⟨y0, y1, y2, y3, y4, y5, y6, y7, y8, y9, y10, y11⟩, yf⟩ := MBox.cells hM2
      obtain ⟨q, hq⟩ : ∃ q, chkM d = q := ⟨_, rfl⟩
      go_wp2_with fail
      refine (MCheck_any w2 d hr2 q hq).mono ?_
      rintro e w3 ⟨rfl, hB⟩
      clear k0 k1 k2 k3 k4 k5 k6 k7 k8 k9 k10 k11 y0 y1 y2 y3 y4 y5 y6 y7 y8 y9 y10 y11 yf hw2
      have l3 := hB.size
      have hZ3 : MBox w3 w.heap.size ZM := box_on hZ2 hB (by omega)
      have hb3 := hb2.trans (hB.mono (by omega))
      clear hB hBL
      by_cases hm : d.may
      · have hq0 : q = 0 := hq.symm.trans (chk_may hm)
        subst hq0
        go_wp2
        go_roundw
        case rel => exact ⟨i + 1, by first | rfl | (congr 1; omega) | go_num, rfl, by omega, hZ3, hb3, by omega, Lib.hid fun j hj hji => by
          by_cases e : j = i
          · subst e
            rw [HD.out]
            exact hm
          · exact hall.out j hj (by omega)⟩
        case measure => first | (simp [intOf]; done) | (simp [intOf]; omega)
      · have hq0 : q = 8 := hq.symm.trans (chk_not hm)
        subst hq0
        have hcode : (R, code) = (zR, 8) := by
          have := H.out
          rw [if_pos ⟨ms[i], List.getElem_mem hi2, by rw [HD.out]; exact hm⟩] at this
          exact this.symm
        injection hcode with hR hcd
        subst hR hcd
        obtain ⟨⟨z0, z1, z2, z3, z4, z5, z6, z7, z8, z9, z10, z11⟩, zf⟩ := MBox.cells hZ3
        go_wp2
        have hX : MBox ((((((((((((w3.setCell ⟨w.heap.size, 0, none⟩ (.bool false)).setCell ⟨w.heap.size, 1, none⟩ (.slice none 0 0)).setCell ⟨w.heap.size, 2, none⟩ (.int .i64 0)).setCell ⟨w.heap.size, 3, none⟩ (.bool false)).setCell ⟨w.heap.size, 4, none⟩ (.slice none 0 0)).setCell ⟨w.heap.size, 5, none⟩ (.int .i64 0)).setCell ⟨w.heap.size, 6, none⟩ (.bool false)).setCell ⟨w.heap.size, 7, none⟩ (.slice none 0 0)).setCell ⟨w.heap.size, 8, none⟩ (.int .i64 0)).setCell ⟨w.heap.size, 9, none⟩ (.bool false)).setCell ⟨w.heap.size, 10, none⟩ (.slice none 0 0)).setCell ⟨w.heap.size, 11, none⟩ (.int .i64 0)) (w.heap.size) ZM := MBox.all hZ3 ZM
        have hY : Below w.heap.size w ((((((((((((w3.setCell ⟨w.heap.size, 0, none⟩ (.bool false)).setCell ⟨w.heap.size, 1, none⟩ (.slice none 0 0)).setCell ⟨w.heap.size, 2, none⟩ (.int .i64 0)).setCell ⟨w.heap.size, 3, none⟩ (.bool false)).setCell ⟨w.heap.size, 4, none⟩ (.slice none 0 0)).setCell ⟨w.heap.size, 5, none⟩ (.int .i64 0)).setCell ⟨w.heap.size, 6, none⟩ (.bool false)).setCell ⟨w.heap.size, 7, none⟩ (.slice none 0 0)).setCell ⟨w.heap.size, 8, none⟩ (.int .i64 0)).setCell ⟨w.heap.size, 9, none⟩ (.bool false)).setCell ⟨w.heap.size, 10, none⟩ (.slice none 0 0)).setCell ⟨w.heap.size, 11, none⟩ (.int .i64 0)) := below_all hb3 (Nat.le_refl _) ZM
        clear z0 z1 z2 z3 z4 z5 z6 z7 z8 z9 z10 z11 zf
        generalize ((((((((((((w3.setCell ⟨w.heap.size, 0, none⟩ (.bool false)).setCell ⟨w.heap.size, 1, none⟩ (.slice none 0 0)).setCell ⟨w.heap.size, 2, none⟩ (.int .i64 0)).setCell ⟨w.heap.size, 3, none⟩ (.bool false)).setCell ⟨w.heap.size, 4, none⟩ (.slice none 0 0)).setCell ⟨w.heap.size, 5, none⟩ (.int .i64 0)).setCell ⟨w.heap.size, 6, none⟩ (.bool false)).setCell ⟨w.heap.size, 7, none⟩ (.slice none 0 0)).setCell ⟨w.heap.size, 8, none⟩ (.int .i64 0)).setCell ⟨w.heap.size, 9, none⟩ (.bool false)).setCell ⟨w.heap.size, 10, none⟩ (.slice none 0 0)).setCell ⟨w.heap.size, 11, none⟩ (.int .i64 0)) = U at *
        obtain ⟨M, hMe⟩ : ∃ M : Mv, M = ZM := ⟨_, rfl⟩
        rw [← hMe] at hX
        obtain ⟨⟨k0, k1, k2, k3, k4, k5, k6, k7, k8, k9, k10, k11⟩, kf⟩ := MBox.cells hX
        refine bodyPost_ret (v := .tuple #[.agg #[.bool M.S.s, .slice M.S.A M.S.n M.S.c, .int .i64 M.S.e, .bool M.W.s, .slice M.W.A M.W.n M.W.c, .int .i64 M.W.e, .bool M.C.s, .slice M.C.A M.C.n M.C.c, .int .i64 M.C.e, .bool M.A.s, .slice M.A.A M.A.n M.A.c, .int .i64 M.A.e], .int .i64 8]) (by simp [results, Tryd.results30, go_sem, k0, k1, k2, k3, k4, k5, k6, k7, k8, k9, k10, k11]) rfl ⟨M, rfl, hY, ?_, ?_⟩
        · rw [hMe]
          exact IsM.zero
        · rw [hMe]
          exact ZM_rows ..
    · have hin : n ≤ i := by omega
      have hmay : Hid (∀ j (h : j < ms.length), ms[j].may) := Lib.hid fun j h => hall.out j h (by have := HL.out; omega)
      have H2 : Hid ((match foldM zR ms with | some R => (R, (0 : Int)) | none => (zR, 10)) = (R, code)) := Lib.hid (by
        have := H.out
        rw [if_neg (by
          rintro ⟨m, hm, hn⟩
          obtain ⟨j, hj, e⟩ := List.getElem_of_mem hm
          exact hn (e ▸ hmay.out j hj))] at this
        exact this)
      clear hall hLr
      go_wp2
      obtain ⟨wo, rfl⟩ : ∃ wo : World, wo = wr := ⟨_, rfl⟩
      go_loopw [3, 8, 28] (fun ev _ iv ww => ∃ (i : Nat) (S : Mv) (R' : Nat → Dn), iv = .int .i64 i ∧ ev = .int .i64 0 ∧ i ≤ n ∧ MBox ww w.heap.size S ∧ Below w.heap.size w ww ∧ w.heap.size < ww.heap.size ∧ MRows ww (w.heap.size + 1) ww.heap.size S ∧ Hid (IsM R' S ∧ MayR R' ∧ foldM R' (ms.drop i) = foldM zR ms)) (fun _ _ iv _ => n - (intOf iv).toNat)
      case atStart => exact ⟨0, ZM, zR, rfl, rfl, Nat.zero_le _, hZ1, hb, l1, ZM_rows .., Lib.hid ⟨IsM.zero, zR_may, rfl⟩⟩
      case round =>
        clear hZ1 hb l1
        obtain ⟨i, S, R', rfl, rfl, hi1, hS1, hb, l1, hRS, hI⟩ := hrel
        have hLr := hL.below hb (Nat.le_refl _)
        by_cases hlt : i < n
        · have hi2 : i < ms.length := by rw [HL.out]; exact hlt
          obtain ⟨b, off, hA, h1, h2, hc⟩ := hLr.row (by omega)
          have hci := hc i hi2
          have hri := hLr.rows i hi2
          have hmd := hmay.out i hi2
          obtain ⟨d, hd⟩ : ∃ d, ms[i] = d := ⟨_, rfl⟩
          rw [hd] at hci hri hmd
          have HD := Lib.hid hd
          have HM := Lib.hid hmd
          subst hA
          clear hd hc hLr hmd
          obtain ⟨k0, k1, k2, k3, k4, k5, k6, k7, k8, k9, k10, k11⟩ := hci
          have hwr : IntKind.i64.wrap ((i : Int) + 1) = ((i + 1 : Nat) : Int) := by rw [IntKind.wrap_i64]; omega
          have hBL := (Below.refl wr.heap.size wr).alloc (Nat.le_refl _) (.cells #[.bool d.S.s, .slice d.S.A d.S.n d.S.c, .int .i64 d.S.e, .bool d.W.s, .slice d.W.A d.W.n d.W.c, .int .i64 d.W.e, .bool d.C.s, .slice d.C.A d.C.n d.C.c, .int .i64 d.C.e, .bool d.A.s, .slice d.A.A d.A.n d.A.c, .int .i64 d.A.e] 39)
          have hM2 : MBox (wr.alloc (.cells #[.bool d.S.s, .slice d.S.A d.S.n d.S.c, .int .i64 d.S.e, .bool d.W.s, .slice d.W.A d.W.n d.W.c, .int .i64 d.W.e, .bool d.C.s, .slice d.C.A d.C.n d.C.c, .int .i64 d.C.e, .bool d.A.s, .slice d.A.A d.A.n d.A.c, .int .i64 d.A.e] 39)) wr.heap.size d := heap_alloc_last _ _
          have hS2 : MBox (wr.alloc (.cells #[.bool d.S.s, .slice d.S.A d.S.n d.S.c, .int .i64 d.S.e, .bool d.W.s, .slice d.W.A d.W.n d.W.c, .int .i64 d.W.e, .bool d.C.s, .slice d.C.A d.C.n d.C.c, .int .i64 d.C.e, .bool d.A.s, .slice d.A.A d.A.n d.A.c, .int .i64 d.A.e] 39)) w.heap.size S := box_on hS1 hBL l1
          have hr2 : MRows (wr.alloc (.cells #[.bool d.S.s, .slice d.S.A d.S.n d.S.c, .int .i64 d.S.e, .bool d.W.s, .slice d.W.A d.W.n d.W.c, .int .i64 d.W.e, .bool d.C.s, .slice d.C.A d.C.n d.C.c, .int .i64 d.C.e, .bool d.A.s, .slice d.A.A d.A.n d.A.c, .int .i64 d.A.e] 39)) 0 (wr.alloc (.cells #[.bool d.S.s, .slice d.S.A d.S.n d.S.c, .int .i64 d.S.e, .bool d.W.s, .slice d.W.A d.W.n d.W.c, .int .i64 d.W.e, .bool d.C.s, .slice d.C.A d.C.n d.C.c, .int .i64 d.C.e, .bool d.A.s, .slice d.A.A d.A.n d.A.c, .int .i64 d.A.e] 39)).heap.size d := (hri.below hBL (by omega)).more (Nat.le_refl _) (by have := hBL.size; omega)
          have hrS2 : MRows (wr.alloc (.cells #[.bool d.S.s, .slice d.S.A d.S.n d.S.c, .int .i64 d.S.e, .bool d.W.s, .slice d.W.A d.W.n d.W.c, .int .i64 d.W.e, .bool d.C.s, .slice d.C.A d.C.n d.C.c, .int .i64 d.C.e, .bool d.A.s, .slice d.A.A d.A.n d.A.c, .int .i64 d.A.e] 39)) 0 (wr.alloc (.cells #[.bool d.S.s, .slice d.S.A d.S.n d.S.c, .int .i64 d.S.e, .bool d.W.s, .slice d.W.A d.W.n d.W.c, .int .i64 d.W.e, .bool d.C.s, .slice d.C.A d.C.n d.C.c, .int .i64 d.C.e, .bool d.A.s, .slice d.A.A d.A.n d.A.c, .int .i64 d.A.e] 39)).heap.size S := (hRS.below hBL (Nat.le_refl _)).more (Nat.zero_le _) hBL.size
          have hb2 : Below w.heap.size w (wr.alloc (.cells #[.bool d.S.s, .slice d.S.A d.S.n d.S.c, .int .i64 d.S.e, .bool d.W.s, .slice d.W.A d.W.n d.W.c, .int .i64 d.W.e, .bool d.C.s, .slice d.C.A d.C.n d.C.c, .int .i64 d.C.e, .bool d.A.s, .slice d.A.A d.A.n d.A.c, .int .i64 d.A.e] 39)) := hb.trans (hBL.mono (by omega))
          have l2 : wr.heap.size < (wr.alloc (.cells #[.bool d.S.s, .slice d.S.A d.S.n d.S.c, .int .i64 d.S.e, .bool d.W.s, .slice d.W.A d.W.n d.W.c, .int .i64 d.W.e, .bool d.C.s, .slice d.C.A d.C.n d.C.c, .int .i64 d.C.e, .bool d.A.s, .slice d.A.A d.A.n d.A.c, .int .i64 d.A.e] 39)).heap.size := by simp
          generalize hw2 : wr.alloc (.cells #[.bool d.S.s, .slice d.S.A d.S.n d.S.c, .int .i64 d.S.e, .bool d.W.s, .slice d.W.A d.W.n d.W.c, .int .i64 d.W.e, .bool d.C.s, .slice d.C.A d.C.n d.C.c, .int .i64 d.C.e, .bool d.A.s, .slice d.A.A d.A.n d.A.c, .int .i64 d.A.e] 39) = w2 at *
          have t2 := hT.below hb2 hT.lt
          obtain ⟨⟨y0, y1, y2, y3, y4, y5, y6, y7, y8, y9, y10, y11⟩, yf⟩ := MBox.cells hM2
          obtain ⟨⟨z0, z1, z2, z3, z4, z5, z6, z7, z8, z9, z10, z11⟩, zf⟩ := MBox.cells hS2
          obtain ⟨R2, q, hq⟩ : ∃ R2 q, addM S d = (R2, q) := ⟨_, _, rfl⟩
          have hstep := Lib.hid (add_step hri HM.out hI.out.1 hI.out.2.1 hq)
          have hmR2 : MayR R2 := by have := addM_may S d; rw [hq] at this; exact this
          have HMR2 := Lib.hid hmR2
          have HQ := Lib.hid hq
          clear hq hmR2
          go_wp2_with fail
          refine (MAdd_num w2 S d hrS2 hr2 t2 R2 q HQ.out).mono ?_
          rintro e w3 ⟨S', rfl, hB, hIS, hRS'⟩
          have HIS := Lib.hid hIS
          clear k0 k1 k2 k3 k4 k5 k6 k7 k8 k9 k10 k11 y0 y1 y2 y3 y4 y5 y6 y7 y8 y9 y10 y11 yf z0 z1 z2 z3 z4 z5 z6 z7 z8 z9 z10 z11 zf hw2 hIS
          have l3 := hB.size
          have hS3 : MBox w3 w.heap.size S := box_on hS2 hB (by omega)
          have hb3 := hb2.trans (hB.mono (by omega))
          clear hB hBL
          obtain ⟨⟨z0, z1, z2, z3, z4, z5, z6, z7, z8, z9, z10, z11⟩, zf⟩ := MBox.cells hS3
          have hX : MBox ((((((((((((w3.setCell ⟨w.heap.size, 0, none⟩ (.bool S'.S.s)).setCell ⟨w.heap.size, 1, none⟩ (.slice S'.S.A S'.S.n S'.S.c)).setCell ⟨w.heap.size, 2, none⟩ (.int .i64 S'.S.e)).setCell ⟨w.heap.size, 3, none⟩ (.bool S'.W.s)).setCell ⟨w.heap.size, 4, none⟩ (.slice S'.W.A S'.W.n S'.W.c)).setCell ⟨w.heap.size, 5, none⟩ (.int .i64 S'.W.e)).setCell ⟨w.heap.size, 6, none⟩ (.bool S'.C.s)).setCell ⟨w.heap.size, 7, none⟩ (.slice S'.C.A S'.C.n S'.C.c)).setCell ⟨w.heap.size, 8, none⟩ (.int .i64 S'.C.e)).setCell ⟨w.heap.size, 9, none⟩ (.bool S'.A.s)).setCell ⟨w.heap.size, 10, none⟩ (.slice S'.A.A S'.A.n S'.A.c)).setCell ⟨w.heap.size, 11, none⟩ (.int .i64 S'.A.e)) w.heap.size S' := MBox.all hS3 S'
          have hY : Below w.heap.size w ((((((((((((w3.setCell ⟨w.heap.size, 0, none⟩ (.bool S'.S.s)).setCell ⟨w.heap.size, 1, none⟩ (.slice S'.S.A S'.S.n S'.S.c)).setCell ⟨w.heap.size, 2, none⟩ (.int .i64 S'.S.e)).setCell ⟨w.heap.size, 3, none⟩ (.bool S'.W.s)).setCell ⟨w.heap.size, 4, none⟩ (.slice S'.W.A S'.W.n S'.W.c)).setCell ⟨w.heap.size, 5, none⟩ (.int .i64 S'.W.e)).setCell ⟨w.heap.size, 6, none⟩ (.bool S'.C.s)).setCell ⟨w.heap.size, 7, none⟩ (.slice S'.C.A S'.C.n S'.C.c)).setCell ⟨w.heap.size, 8, none⟩ (.int .i64 S'.C.e)).setCell ⟨w.heap.size, 9, none⟩ (.bool S'.A.s)).setCell ⟨w.heap.size, 10, none⟩ (.slice S'.A.A S'.A.n S'.A.c)).setCell ⟨w.heap.size, 11, none⟩ (.int .i64 S'.A.e)) := below_all hb3 (Nat.le_refl _) S'
          have hRX : MRows ((((((((((((w3.setCell ⟨w.heap.size, 0, none⟩ (.bool S'.S.s)).setCell ⟨w.heap.size, 1, none⟩ (.slice S'.S.A S'.S.n S'.S.c)).setCell ⟨w.heap.size, 2, none⟩ (.int .i64 S'.S.e)).setCell ⟨w.heap.size, 3, none⟩ (.bool S'.W.s)).setCell ⟨w.heap.size, 4, none⟩ (.slice S'.W.A S'.W.n S'.W.c)).setCell ⟨w.heap.size, 5, none⟩ (.int .i64 S'.W.e)).setCell ⟨w.heap.size, 6, none⟩ (.bool S'.C.s)).setCell ⟨w.heap.size, 7, none⟩ (.slice S'.C.A S'.C.n S'.C.c)).setCell ⟨w.heap.size, 8, none⟩ (.int .i64 S'.C.e)).setCell ⟨w.heap.size, 9, none⟩ (.bool S'.A.s)).setCell ⟨w.heap.size, 10, none⟩ (.slice S'.A.A S'.A.n S'.A.c)).setCell ⟨w.heap.size, 11, none⟩ (.int .i64 S'.A.e)) (w.heap.size + 1) w3.heap.size S' := rows_all (hRS'.more (by omega) (Nat.le_refl _)) (g := w.heap.size) (.inl (by omega)) S'
          have hsX : ((((((((((((w3.setCell ⟨w.heap.size, 0, none⟩ (.bool S'.S.s)).setCell ⟨w.heap.size, 1, none⟩ (.slice S'.S.A S'.S.n S'.S.c)).setCell ⟨w.heap.size, 2, none⟩ (.int .i64 S'.S.e)).setCell ⟨w.heap.size, 3, none⟩ (.bool S'.W.s)).setCell ⟨w.heap.size, 4, none⟩ (.slice S'.W.A S'.W.n S'.W.c)).setCell ⟨w.heap.size, 5, none⟩ (.int .i64 S'.W.e)).setCell ⟨w.heap.size, 6, none⟩ (.bool S'.C.s)).setCell ⟨w.heap.size, 7, none⟩ (.slice S'.C.A S'.C.n S'.C.c)).setCell ⟨w.heap.size, 8, none⟩ (.int .i64 S'.C.e)).setCell ⟨w.heap.size, 9, none⟩ (.bool S'.A.s)).setCell ⟨w.heap.size, 10, none⟩ (.slice S'.A.A S'.A.n S'.A.c)).setCell ⟨w.heap.size, 11, none⟩ (.int .i64 S'.A.e)).heap.size = w3.heap.size := size_all S'
          have hsX1 : w3.heap.size ≤ ((((((((((((w3.setCell ⟨w.heap.size, 0, none⟩ (.bool S'.S.s)).setCell ⟨w.heap.size, 1, none⟩ (.slice S'.S.A S'.S.n S'.S.c)).setCell ⟨w.heap.size, 2, none⟩ (.int .i64 S'.S.e)).setCell ⟨w.heap.size, 3, none⟩ (.bool S'.W.s)).setCell ⟨w.heap.size, 4, none⟩ (.slice S'.W.A S'.W.n S'.W.c)).setCell ⟨w.heap.size, 5, none⟩ (.int .i64 S'.W.e)).setCell ⟨w.heap.size, 6, none⟩ (.bool S'.C.s)).setCell ⟨w.heap.size, 7, none⟩ (.slice S'.C.A S'.C.n S'.C.c)).setCell ⟨w.heap.size, 8, none⟩ (.int .i64 S'.C.e)).setCell ⟨w.heap.size, 9, none⟩ (.bool S'.A.s)).setCell ⟨w.heap.size, 10, none⟩ (.slice S'.A.A S'.A.n S'.A.c)).setCell ⟨w.heap.size, 11, none⟩ (.int .i64 S'.A.e)).heap.size := Nat.le_of_eq hsX.symm
          clear hsX
          rcases hstep.out with ⟨hq0, hs0, hs1⟩ | ⟨hq0, hs0, hs1⟩
          · subst hq0
            have hI2 : Hid (IsM (fun x => (addD (R' x) (dnM d x)).1) S' ∧ MayR (fun x => (addD (R' x) (dnM d x)).1) ∧ foldM (fun x => (addD (R' x) (dnM d x)).1) (ms.drop (i + 1)) = foldM zR ms) := Lib.hid ⟨HIS.out.of_eq fun x hx => (hs1 x hx).symm, fun x _ => add_may .., by
              have e := hI.out.2.2
              rw [List.drop_eq_getElem_cons hi2, HD.out, foldM_cons, if_pos hs0] at e
              exact e⟩
            clear hs0 hs1 hstep
            go_wp2
            clear z0 z1 z2 z3 z4 z5 z6 z7 z8 z9 z10 z11 zf
            generalize ((((((((((((w3.setCell ⟨w.heap.size, 0, none⟩ (.bool S'.S.s)).setCell ⟨w.heap.size, 1, none⟩ (.slice S'.S.A S'.S.n S'.S.c)).setCell ⟨w.heap.size, 2, none⟩ (.int .i64 S'.S.e)).setCell ⟨w.heap.size, 3, none⟩ (.bool S'.W.s)).setCell ⟨w.heap.size, 4, none⟩ (.slice S'.W.A S'.W.n S'.W.c)).setCell ⟨w.heap.size, 5, none⟩ (.int .i64 S'.W.e)).setCell ⟨w.heap.size, 6, none⟩ (.bool S'.C.s)).setCell ⟨w.heap.size, 7, none⟩ (.slice S'.C.A S'.C.n S'.C.c)).setCell ⟨w.heap.size, 8, none⟩ (.int .i64 S'.C.e)).setCell ⟨w.heap.size, 9, none⟩ (.bool S'.A.s)).setCell ⟨w.heap.size, 10, none⟩ (.slice S'.A.A S'.A.n S'.A.c)).setCell ⟨w.heap.size, 11, none⟩ (.int .i64 S'.A.e)) = w4 at *
            go_roundw
            case rel => exact ⟨i + 1, S', _, by first | rfl | (congr 1; omega) | go_num, rfl, by omega, hX, hY, by omega, hRX.more (Nat.le_refl _) hsX1, hI2⟩
            case measure => first | (simp [intOf]; done) | (simp [intOf]; omega)
          · subst hq0
            have hcode : (zR, (10 : Int)) = (R, code) := by
              have e := hI.out.2.2
              rw [List.drop_eq_getElem_cons hi2, HD.out, foldM_cons, if_neg hs0] at e
              have e2 := H2.out
              rw [← e] at e2
              exact e2
            injection hcode with hR hcd
            subst hR hcd
            clear hs0 hs1 hstep
            go_wp2
            have hX2 : MBox ((((((((((((((((((((((((w3.setCell ⟨w.heap.size, 0, none⟩ (.bool S'.S.s)).setCell ⟨w.heap.size, 1, none⟩ (.slice S'.S.A S'.S.n S'.S.c)).setCell ⟨w.heap.size, 2, none⟩ (.int .i64 S'.S.e)).setCell ⟨w.heap.size, 3, none⟩ (.bool S'.W.s)).setCell ⟨w.heap.size, 4, none⟩ (.slice S'.W.A S'.W.n S'.W.c)).setCell ⟨w.heap.size, 5, none⟩ (.int .i64 S'.W.e)).setCell ⟨w.heap.size, 6, none⟩ (.bool S'.C.s)).setCell ⟨w.heap.size, 7, none⟩ (.slice S'.C.A S'.C.n S'.C.c)).setCell ⟨w.heap.size, 8, none⟩ (.int .i64 S'.C.e)).setCell ⟨w.heap.size, 9, none⟩ (.bool S'.A.s)).setCell ⟨w.heap.size, 10, none⟩ (.slice S'.A.A S'.A.n S'.A.c)).setCell ⟨w.heap.size, 11, none⟩ (.int .i64 S'.A.e)).setCell ⟨w.heap.size, 0, none⟩ (.bool false)).setCell ⟨w.heap.size, 1, none⟩ (.slice none 0 0)).setCell ⟨w.heap.size, 2, none⟩ (.int .i64 0)).setCell ⟨w.heap.size, 3, none⟩ (.bool false)).setCell ⟨w.heap.size, 4, none⟩ (.slice none 0 0)).setCell ⟨w.heap.size, 5, none⟩ (.int .i64 0)).setCell ⟨w.heap.size, 6, none⟩ (.bool false)).setCell ⟨w.heap.size, 7, none⟩ (.slice none 0 0)).setCell ⟨w.heap.size, 8, none⟩ (.int .i64 0)).setCell ⟨w.heap.size, 9, none⟩ (.bool false)).setCell ⟨w.heap.size, 10, none⟩ (.slice none 0 0)).setCell ⟨w.heap.size, 11, none⟩ (.int .i64 0)) w.heap.size ZM := MBox.all hX ZM
            have hY2 : Below w.heap.size w ((((((((((((((((((((((((w3.setCell ⟨w.heap.size, 0, none⟩ (.bool S'.S.s)).setCell ⟨w.heap.size, 1, none⟩ (.slice S'.S.A S'.S.n S'.S.c)).setCell ⟨w.heap.size, 2, none⟩ (.int .i64 S'.S.e)).setCell ⟨w.heap.size, 3, none⟩ (.bool S'.W.s)).setCell ⟨w.heap.size, 4, none⟩ (.slice S'.W.A S'.W.n S'.W.c)).setCell ⟨w.heap.size, 5, none⟩ (.int .i64 S'.W.e)).setCell ⟨w.heap.size, 6, none⟩ (.bool S'.C.s)).setCell ⟨w.heap.size, 7, none⟩ (.slice S'.C.A S'.C.n S'.C.c)).setCell ⟨w.heap.size, 8, none⟩ (.int .i64 S'.C.e)).setCell ⟨w.heap.size, 9, none⟩ (.bool S'.A.s)).setCell ⟨w.heap.size, 10, none⟩ (.slice S'.A.A S'.A.n S'.A.c)).setCell ⟨w.heap.size, 11, none⟩ (.int .i64 S'.A.e)).setCell ⟨w.heap.size, 0, none⟩ (.bool false)).setCell ⟨w.heap.size, 1, none⟩ (.slice none 0 0)).setCell ⟨w.heap.size, 2, none⟩ (.int .i64 0)).setCell ⟨w.heap.size, 3, none⟩ (.bool false)).setCell ⟨w.heap.size, 4, none⟩ (.slice none 0 0)).setCell ⟨w.heap.size, 5, none⟩ (.int .i64 0)).setCell ⟨w.heap.size, 6, none⟩ (.bool false)).setCell ⟨w.heap.size, 7, none⟩ (.slice none 0 0)).setCell ⟨w.heap.size, 8, none⟩ (.int .i64 0)).setCell ⟨w.heap.size, 9, none⟩ (.bool false)).setCell ⟨w.heap.size, 10, none⟩ (.slice none 0 0)).setCell ⟨w.heap.size, 11, none⟩ (.int .i64 0)) := below_all hY (Nat.le_refl _) ZM
            clear z0 z1 z2 z3 z4 z5 z6 z7 z8 z9 z10 z11 zf hX hY
            generalize ((((((((((((((((((((((((w3.setCell ⟨w.heap.size, 0, none⟩ (.bool S'.S.s)).setCell ⟨w.heap.size, 1, none⟩ (.slice S'.S.A S'.S.n S'.S.c)).setCell ⟨w.heap.size, 2, none⟩ (.int .i64 S'.S.e)).setCell ⟨w.heap.size, 3, none⟩ (.bool S'.W.s)).setCell ⟨w.heap.size, 4, none⟩ (.slice S'.W.A S'.W.n S'.W.c)).setCell ⟨w.heap.size, 5, none⟩ (.int .i64 S'.W.e)).setCell ⟨w.heap.size, 6, none⟩ (.bool S'.C.s)).setCell ⟨w.heap.size, 7, none⟩ (.slice S'.C.A S'.C.n S'.C.c)).setCell ⟨w.heap.size, 8, none⟩ (.int .i64 S'.C.e)).setCell ⟨w.heap.size, 9, none⟩ (.bool S'.A.s)).setCell ⟨w.heap.size, 10, none⟩ (.slice S'.A.A S'.A.n S'.A.c)).setCell ⟨w.heap.size, 11, none⟩ (.int .i64 S'.A.e)).setCell ⟨w.heap.size, 0, none⟩ (.bool false)).setCell ⟨w.heap.size, 1, none⟩ (.slice none 0 0)).setCell ⟨w.heap.size, 2, none⟩ (.int .i64 0)).setCell ⟨w.heap.size, 3, none⟩ (.bool false)).setCell ⟨w.heap.size, 4, none⟩ (.slice none 0 0)).setCell ⟨w.heap.size, 5, none⟩ (.int .i64 0)).setCell ⟨w.heap.size, 6, none⟩ (.bool false)).setCell ⟨w.heap.size, 7, none⟩ (.slice none 0 0)).setCell ⟨w.heap.size, 8, none⟩ (.int .i64 0)).setCell ⟨w.heap.size, 9, none⟩ (.bool false)).setCell ⟨w.heap.size, 10, none⟩ (.slice none 0 0)).setCell ⟨w.heap.size, 11, none⟩ (.int .i64 0)) = U at *
            obtain ⟨M, hMe⟩ : ∃ M : Mv, M = ZM := ⟨_, rfl⟩
            rw [← hMe] at hX2
            obtain ⟨⟨k0, k1, k2, k3, k4, k5, k6, k7, k8, k9, k10, k11⟩, kf⟩ := MBox.cells hX2
            refine bodyPost_ret (v := .tuple #[.agg #[.bool M.S.s, .slice M.S.A M.S.n M.S.c, .int .i64 M.S.e, .bool M.W.s, .slice M.W.A M.W.n M.W.c, .int .i64 M.W.e, .bool M.C.s, .slice M.C.A M.C.n M.C.c, .int .i64 M.C.e, .bool M.A.s, .slice M.A.A M.A.n M.A.c, .int .i64 M.A.e], .int .i64 10]) (by simp [results, Tryd.results30, go_sem, k0, k1, k2, k3, k4, k5, k6, k7, k8, k9, k10, k11]) rfl ⟨M, rfl, hY2, ?_, ?_⟩
            · rw [hMe]
              exact IsM.zero
            · rw [hMe]
              exact ZM_rows ..
        · have hin2 : ms.length ≤ i := by have := HL.out; omega
          have hcode : (R', (0 : Int)) = (R, code) := by
            have e := hI.out.2.2
            rw [List.drop_eq_nil_of_le hin2] at e
            have e2 := H2.out
            rw [← e] at e2
            exact e2
          injection hcode with hR hcd
          subst hR hcd
          have HI := Lib.hid hI.out.1
          clear hI hLr
          obtain ⟨⟨z0, z1, z2, z3, z4, z5, z6, z7, z8, z9, z10, z11⟩, zf⟩ := MBox.cells hS1
          go_wp2
          have hX2 : MBox ((((((((((((wr.setCell ⟨w.heap.size, 0, none⟩ (.bool S.S.s)).setCell ⟨w.heap.size, 1, none⟩ (.slice S.S.A S.S.n S.S.c)).setCell ⟨w.heap.size, 2, none⟩ (.int .i64 S.S.e)).setCell ⟨w.heap.size, 3, none⟩ (.bool S.W.s)).setCell ⟨w.heap.size, 4, none⟩ (.slice S.W.A S.W.n S.W.c)).setCell ⟨w.heap.size, 5, none⟩ (.int .i64 S.W.e)).setCell ⟨w.heap.size, 6, none⟩ (.bool S.C.s)).setCell ⟨w.heap.size, 7, none⟩ (.slice S.C.A S.C.n S.C.c)).setCell ⟨w.heap.size, 8, none⟩ (.int .i64 S.C.e)).setCell ⟨w.heap.size, 9, none⟩ (.bool S.A.s)).setCell ⟨w.heap.size, 10, none⟩ (.slice S.A.A S.A.n S.A.c)).setCell ⟨w.heap.size, 11, none⟩ (.int .i64 S.A.e)) w.heap.size S := MBox.all hS1 S
          have hY2 : Below w.heap.size w ((((((((((((wr.setCell ⟨w.heap.size, 0, none⟩ (.bool S.S.s)).setCell ⟨w.heap.size, 1, none⟩ (.slice S.S.A S.S.n S.S.c)).setCell ⟨w.heap.size, 2, none⟩ (.int .i64 S.S.e)).setCell ⟨w.heap.size, 3, none⟩ (.bool S.W.s)).setCell ⟨w.heap.size, 4, none⟩ (.slice S.W.A S.W.n S.W.c)).setCell ⟨w.heap.size, 5, none⟩ (.int .i64 S.W.e)).setCell ⟨w.heap.size, 6, none⟩ (.bool S.C.s)).setCell ⟨w.heap.size, 7, none⟩ (.slice S.C.A S.C.n S.C.c)).setCell ⟨w.heap.size, 8, none⟩ (.int .i64 S.C.e)).setCell ⟨w.heap.size, 9, none⟩ (.bool S.A.s)).setCell ⟨w.heap.size, 10, none⟩ (.slice S.A.A S.A.n S.A.c)).setCell ⟨w.heap.size, 11, none⟩ (.int .i64 S.A.e)) := below_all hb (Nat.le_refl _) S
          have hRX : MRows ((((((((((((wr.setCell ⟨w.heap.size, 0, none⟩ (.bool S.S.s)).setCell ⟨w.heap.size, 1, none⟩ (.slice S.S.A S.S.n S.S.c)).setCell ⟨w.heap.size, 2, none⟩ (.int .i64 S.S.e)).setCell ⟨w.heap.size, 3, none⟩ (.bool S.W.s)).setCell ⟨w.heap.size, 4, none⟩ (.slice S.W.A S.W.n S.W.c)).setCell ⟨w.heap.size, 5, none⟩ (.int .i64 S.W.e)).setCell ⟨w.heap.size, 6, none⟩ (.bool S.C.s)).setCell ⟨w.heap.size, 7, none⟩ (.slice S.C.A S.C.n S.C.c)).setCell ⟨w.heap.size, 8, none⟩ (.int .i64 S.C.e)).setCell ⟨w.heap.size, 9, none⟩ (.bool S.A.s)).setCell ⟨w.heap.size, 10, none⟩ (.slice S.A.A S.A.n S.A.c)).setCell ⟨w.heap.size, 11, none⟩ (.int .i64 S.A.e)) (w.heap.size + 1) wr.heap.size S := rows_all hRS (g := w.heap.size) (.inl (by omega)) S
          have hsX : ((((((((((((wr.setCell ⟨w.heap.size, 0, none⟩ (.bool S.S.s)).setCell ⟨w.heap.size, 1, none⟩ (.slice S.S.A S.S.n S.S.c)).setCell ⟨w.heap.size, 2, none⟩ (.int .i64 S.S.e)).setCell ⟨w.heap.size, 3, none⟩ (.bool S.W.s)).setCell ⟨w.heap.size, 4, none⟩ (.slice S.W.A S.W.n S.W.c)).setCell ⟨w.heap.size, 5, none⟩ (.int .i64 S.W.e)).setCell ⟨w.heap.size, 6, none⟩ (.bool S.C.s)).setCell ⟨w.heap.size, 7, none⟩ (.slice S.C.A S.C.n S.C.c)).setCell ⟨w.heap.size, 8, none⟩ (.int .i64 S.C.e)).setCell ⟨w.heap.size, 9, none⟩ (.bool S.A.s)).setCell ⟨w.heap.size, 10, none⟩ (.slice S.A.A S.A.n S.A.c)).setCell ⟨w.heap.size, 11, none⟩ (.int .i64 S.A.e)).heap.size = wr.heap.size := size_all S
          have hsX1 : wr.heap.size ≤ ((((((((((((wr.setCell ⟨w.heap.size, 0, none⟩ (.bool S.S.s)).setCell ⟨w.heap.size, 1, none⟩ (.slice S.S.A S.S.n S.S.c)).setCell ⟨w.heap.size, 2, none⟩ (.int .i64 S.S.e)).setCell ⟨w.heap.size, 3, none⟩ (.bool S.W.s)).setCell ⟨w.heap.size, 4, none⟩ (.slice S.W.A S.W.n S.W.c)).setCell ⟨w.heap.size, 5, none⟩ (.int .i64 S.W.e)).setCell ⟨w.heap.size, 6, none⟩ (.bool S.C.s)).setCell ⟨w.heap.size, 7, none⟩ (.slice S.C.A S.C.n S.C.c)).setCell ⟨w.heap.size, 8, none⟩ (.int .i64 S.C.e)).setCell ⟨w.heap.size, 9, none⟩ (.bool S.A.s)).setCell ⟨w.heap.size, 10, none⟩ (.slice S.A.A S.A.n S.A.c)).setCell ⟨w.heap.size, 11, none⟩ (.int .i64 S.A.e)).heap.size := Nat.le_of_eq hsX.symm
          clear z0 z1 z2 z3 z4 z5 z6 z7 z8 z9 z10 z11 zf hsX
          generalize ((((((((((((wr.setCell ⟨w.heap.size, 0, none⟩ (.bool S.S.s)).setCell ⟨w.heap.size, 1, none⟩ (.slice S.S.A S.S.n S.S.c)).setCell ⟨w.heap.size, 2, none⟩ (.int .i64 S.S.e)).setCell ⟨w.heap.size, 3, none⟩ (.bool S.W.s)).setCell ⟨w.heap.size, 4, none⟩ (.slice S.W.A S.W.n S.W.c)).setCell ⟨w.heap.size, 5, none⟩ (.int .i64 S.W.e)).setCell ⟨w.heap.size, 6, none⟩ (.bool S.C.s)).setCell ⟨w.heap.size, 7, none⟩ (.slice S.C.A S.C.n S.C.c)).setCell ⟨w.heap.size, 8, none⟩ (.int .i64 S.C.e)).setCell ⟨w.heap.size, 9, none⟩ (.bool S.A.s)).setCell ⟨w.heap.size, 10, none⟩ (.slice S.A.A S.A.n S.A.c)).setCell ⟨w.heap.size, 11, none⟩ (.int .i64 S.A.e)) = U at *
          obtain ⟨⟨k0, k1, k2, k3, k4, k5, k6, k7, k8, k9, k10, k11⟩, kf⟩ := MBox.cells hX2
          exact bodyPost_ret (v := .tuple #[.agg #[.bool S.S.s, .slice S.S.A S.S.n S.S.c, .int .i64 S.S.e, .bool S.W.s, .slice S.W.A S.W.n S.W.c, .int .i64 S.W.e, .bool S.C.s, .slice S.C.A S.C.n S.C.c, .int .i64 S.C.e, .bool S.A.s, .slice S.A.A S.A.n S.A.c, .int .i64 S.A.e], .int .i64 0]) (by simp [results, Tryd.results30, go_sem, k0, k1, k2, k3, k4, k5, k6, k7, k8, k9, k10, k11]) rfl ⟨S, rfl, hY2, HI.out, hRX.more (by omega) hsX1⟩
end Ma
end Go.Proofs.YtlbkepiflhchdaaDoor
namespace Go.Proofs.YtlbkepiflhchdaaDoor
namespace Ma
open Dp Dy
/-- One more number: the least and the greatest one. -/
def stepE : Option (Dn × Dn) → Dn → Option (Dn × Dn)
  | none, x => some (x, x)
  | some (lo, hi), x => some (if cmpD x lo < 0 then x else lo, if 0 < cmpD x hi then x else hi)
/-- The least and the greatest one of numbers. -/
def endsL (l : List Dn) : Option (Dn × Dn) := l.foldl stepE none
/-- How far they are apart. -/
def farL (l : List Dn) : Dn × Int :=
  match endsL l with
  | none => (Dn.zero, 6)
  | some (lo, hi) => subD hi lo
/-- The numbers of masses. -/
noncomputable def colM (x : Nat) (ms : List Mv) : List Dn := ms.map fun m => dnM m x
open Classical in
/-- How far masses are apart. -/
noncomputable def farM (ms : List Mv) : (Dn × Dn) × Int :=
  if 4096 < ms.length then ((Dn.zero, Dn.zero), 4) else if ∃ m ∈ ms, ¬ m.may then ((Dn.zero, Dn.zero), 8)
  else if (farL (colM 2 ms)).2 = 0 ∧ (farL (colM 3 ms)).2 = 0 then (((farL (colM 2 ms)).1, (farL (colM 3 ms)).1), 0)
  else ((Dn.zero, Dn.zero), if ms = [] then 6 else 10)
theorem endsL_nil : endsL [] = none := rfl
theorem endsL_snoc (l : List Dn) (x : Dn) : endsL (l ++ [x]) = stepE (endsL l) x := by simp [endsL]
theorem endsL_take (l : List Dn) (i : Nat) (h : i < l.length) : endsL (l.take (i + 1)) = stepE (endsL (l.take i)) l[i] := by
  have e : l.take (i + 1) = l.take i ++ [l[i]] := by rw [List.take_add_one]; simp [h]
  rw [e, endsL_snoc]
theorem stepE_some (p : Option (Dn × Dn)) (x : Dn) : ∃ q, stepE p x = some q := by
  cases p with
  | none => exact ⟨_, rfl⟩
  | some q => exact ⟨_, rfl⟩
theorem endsL_some {l : List Dn} (h : l ≠ []) : ∃ q, endsL l = some q := by
  obtain ⟨l', x, rfl⟩ : ∃ l' x, l = l' ++ [x] := ⟨l.dropLast, l.getLast h, (List.dropLast_concat_getLast h).symm⟩
  rw [endsL_snoc]
  exact stepE_some _ _
theorem farL_nil : farL [] = (Dn.zero, 6) := rfl
theorem farL_two {l : List Dn} (h : l ≠ []) : (farL l).2 = 0 ∨ farL l = (Dn.zero, 10) := by
  obtain ⟨⟨lo, hi⟩, hq⟩ := endsL_some h
  unfold farL
  rw [hq]
  exact sub_cases _ _
theorem farL_may (l : List Dn) : (farL l).1.May := by
  unfold farL
  split
  · exact zero_may
  · exact sub_may _ _
theorem farM_may (ms : List Mv) : (farM ms).1.1.May ∧ (farM ms).1.2.May := by
  unfold farM
  split
  · exact ⟨zero_may, zero_may⟩
  split
  · exact ⟨zero_may, zero_may⟩
  split
  · exact ⟨farL_may _, farL_may _⟩
  · exact ⟨zero_may, zero_may⟩
theorem cmp_self (a : Dn) : cmpD a a = 0 := by
  rcases cmp_spec a a (Nat.le_refl _) (Nat.le_refl _) with h | h | h <;> omega
/-- The least and the greatest one are of them, and bound them. -/
theorem ends_spec (K : Nat) : ∀ (l : List Dn) {lo hi : Dn}, endsL l = some (lo, hi) → (∀ x ∈ l, x.e ≤ K) →
    lo ∈ l ∧ hi ∈ l ∧ ∀ x ∈ l, vl lo K ≤ vl x K ∧ vl x K ≤ vl hi K := by
  intro l
  induction hn : l.length generalizing l with
  | zero =>
    intro lo hi h
    obtain rfl : l = [] := List.eq_nil_of_length_eq_zero hn
    cases h
  | succ n ih =>
    intro lo hi h hK
    have hne : l ≠ [] := by intro e; rw [e] at hn; cases hn
    obtain ⟨l', x, rfl⟩ : ∃ l' x, l = l' ++ [x] := ⟨l.dropLast, l.getLast hne, (List.dropLast_concat_getLast hne).symm⟩
    rw [endsL_snoc] at h
    have hl' : l'.length = n := by simpa using hn
    have hKx : x.e ≤ K := hK x (by simp)
    cases hp : endsL l' with
    | none =>
      have hnil : l' = [] := by
        rcases Classical.em (l' = []) with e | e
        · exact e
        · obtain ⟨q, hq⟩ := endsL_some e
          rw [hq] at hp
          cases hp
      subst hnil
      rw [hp] at h
      injection h with h
      injection h with h1 h2
      subst h1 h2
      simp
    | some q =>
      obtain ⟨lo', hi'⟩ := q
      rw [hp] at h
      obtain ⟨m1, m2, m3⟩ := ih l' hl' hp fun y hy => hK y (by simp [hy])
      have k1 := hK lo' (by simp [m1])
      have k2 := hK hi' (by simp [m2])
      have hlh := m3 hi' m2
      injection h with h
      injection h with h1 h2
      have c1 := cmp_spec x lo' hKx k1
      have c2 := cmp_spec x hi' hKx k2
      have hlo : lo ∈ l' ++ [x] ∧ vl lo K ≤ vl x K ∧ vl lo K ≤ vl lo' K := by
        split at h1
        · subst h1
          exact ⟨by simp, by omega, by omega⟩
        · subst h1
          exact ⟨by simp [m1], by omega, by omega⟩
      have hhi : hi ∈ l' ++ [x] ∧ vl x K ≤ vl hi K ∧ vl hi' K ≤ vl hi K := by
        split at h2
        · subst h2
          exact ⟨by simp, by omega, by omega⟩
        · subst h2
          exact ⟨by simp [m2], by omega, by omega⟩
      refine ⟨hlo.1, hhi.1, fun y hy => ?_⟩
      rcases List.mem_append.1 hy with hy | hy
      · have := m3 y hy
        omega
      · obtain rfl : y = x := by simpa using hy
        omega
end Ma
end Go.Proofs.YtlbkepiflhchdaaDoor
namespace Go.Proofs.YtlbkepiflhchdaaDoor
open Go.RowKit
namespace Ma
open Dp Dy
theorem MRows.on {w w' : World} {m : Mv} (h : MRows w 0 w.heap.size m) (hb : Below w.heap.size w w') : MRows w' 0 w'.heap.size m := (h.below hb (Nat.le_refl _)).more (Nat.le_refl _) hb.size
end Ma
end Go.Proofs.YtlbkepiflhchdaaDoor
namespace Go.Proofs.YtlbkepiflhchdaaDoor
open Go.RowKit
namespace Ma
open Dp Dy
theorem alloc_m (w : World) (m : Mv) : ∃ U, w.alloc (.cells #[.bool m.S.s, .slice m.S.A m.S.n m.S.c, .int .i64 m.S.e, .bool m.W.s, .slice m.W.A m.W.n m.W.c, .int .i64 m.W.e, .bool m.C.s, .slice m.C.A m.C.n m.C.c, .int .i64 m.C.e, .bool m.A.s, .slice m.A.A m.A.n m.A.c, .int .i64 m.A.e] 39) = U ∧ MBox U w.heap.size m ∧ Below w.heap.size w U ∧ w.heap.size < U.heap.size :=
  ⟨_, rfl, heap_alloc_last _ _, (Below.refl _ w).alloc (Nat.le_refl _) _, by simp⟩
theorem alloc_z (w : World) : ∃ U, w.alloc (.cells #[.bool false, .slice none 0 0, .int .i64 0, .bool false, .slice none 0 0, .int .i64 0, .bool false, .slice none 0 0, .int .i64 0, .bool false, .slice none 0 0, .int .i64 0] 39) = U ∧ MBox U w.heap.size ZM ∧ Below w.heap.size w U ∧ w.heap.size < U.heap.size :=
  ⟨_, rfl, heap_alloc_last _ _, (Below.refl _ w).alloc (Nat.le_refl _) _, by simp⟩
theorem all_to {w : World} {g : Nat} {m0 : Mv} (h : MBox w g m0) (m : Mv) : ∃ U, ((((((((((((w.setCell ⟨g, 0, none⟩ (.bool m.S.s)).setCell ⟨g, 1, none⟩ (.slice m.S.A m.S.n m.S.c)).setCell ⟨g, 2, none⟩ (.int .i64 m.S.e)).setCell ⟨g, 3, none⟩ (.bool m.W.s)).setCell ⟨g, 4, none⟩ (.slice m.W.A m.W.n m.W.c)).setCell ⟨g, 5, none⟩ (.int .i64 m.W.e)).setCell ⟨g, 6, none⟩ (.bool m.C.s)).setCell ⟨g, 7, none⟩ (.slice m.C.A m.C.n m.C.c)).setCell ⟨g, 8, none⟩ (.int .i64 m.C.e)).setCell ⟨g, 9, none⟩ (.bool m.A.s)).setCell ⟨g, 10, none⟩ (.slice m.A.A m.A.n m.A.c)).setCell ⟨g, 11, none⟩ (.int .i64 m.A.e)) = U ∧ MBox U g m ∧ (∀ w0 B, Below B w0 w → B ≤ g → Below B w0 U) ∧ (∀ j, j ≠ g → U.heap[j]? = w.heap[j]?) ∧ U.heap.size ≤ w.heap.size ∧ w.heap.size ≤ U.heap.size :=
  ⟨_, rfl, h.all m, fun _ _ hb hg => below_all hb hg m, fun _ hj => far_all hj m, Nat.le_of_eq (size_all m), Nat.le_of_eq (size_all m).symm⟩
theorem zero_to {w : World} {g : Nat} {m0 : Mv} (h : MBox w g m0) : ∃ U M, ((((((((((((w.setCell ⟨g, 0, none⟩ (.bool false)).setCell ⟨g, 1, none⟩ (.slice none 0 0)).setCell ⟨g, 2, none⟩ (.int .i64 0)).setCell ⟨g, 3, none⟩ (.bool false)).setCell ⟨g, 4, none⟩ (.slice none 0 0)).setCell ⟨g, 5, none⟩ (.int .i64 0)).setCell ⟨g, 6, none⟩ (.bool false)).setCell ⟨g, 7, none⟩ (.slice none 0 0)).setCell ⟨g, 8, none⟩ (.int .i64 0)).setCell ⟨g, 9, none⟩ (.bool false)).setCell ⟨g, 10, none⟩ (.slice none 0 0)).setCell ⟨g, 11, none⟩ (.int .i64 0)) = U ∧ M = ZM ∧ MBox U g M ∧ (∀ w0 B, Below B w0 w → B ≤ g → Below B w0 U) ∧ (∀ j, j ≠ g → U.heap[j]? = w.heap[j]?) ∧ U.heap.size ≤ w.heap.size ∧ w.heap.size ≤ U.heap.size :=
  ⟨_, ZM, rfl, rfl, h.all ZM, fun _ _ hb hg => below_all hb hg ZM, fun _ hj => far_all hj ZM, Nat.le_of_eq (size_all ZM), Nat.le_of_eq (size_all ZM).symm⟩
end Ma
end Go.Proofs.YtlbkepiflhchdaaDoor
namespace Go.Proofs.YtlbkepiflhchdaaDoor
open Go.RowKit
namespace Ma
open Dp Dy
set_option maxHeartbeats 3200000 in
set_option maxRecDepth 100000 in
theorem pair_any (w : World) (g : Nat) :
    Calls Tryd.prog 78 #[.pointer (some ⟨g, 0, none⟩)] w fun e w' => e = .returned (.agg #[.pointer (some ⟨g, 6, none⟩), .pointer (some ⟨g, 9, none⟩)]) ∧ Below w.heap.size w w' := by
  generalize hw : w.alloc (.cells #[.pointer none, .pointer none] 102) = w1
  have X1 : w1.heap[w.heap.size]? = some (.cells #[.pointer none, .pointer none] 102 (0, 0)) := by rw [← hw]; exact heap_alloc_last _ _
  have hb : Below w.heap.size w w1 := by rw [← hw]; exact (Below.refl _ w).alloc (Nat.le_refl _) _
  have l1 : w.heap.size < w1.heap.size := by rw [← hw]; simp
  go_enter Tryd.func78, Tryd.ntmps78
  go_wp2_with fail
  try clear hw
  refine region_E (Keeps w1) [7] (m := 8) (L := #[false, false, false, false, false, false, false, false]) (by kernel_rfl) (by rfl) (by rfl) ?_
  have kp_ : Keeps w1 w1.drew := fun _ _ => rfl
  have hb2 : Below w.heap.size w w1.drew := hb.drew
  have X2 : w1.drew.heap[w.heap.size]? = some (.cells #[.pointer none, .pointer none] 102 (0, 0)) := X1
  generalize w1.drew = w2 at *
  refine pureE (i := 0) (L := #[true, false, false, false, false, false, false, false]) (v := ?_) rfl (by rfl) (by kernel_rfl) (by kernel_rfl) (by kernel_rfl) (fun _ _ _ h => h) (by rfl) ?hy1 ?rest1
  case hy1 => intro w; go_simp; (try with_reducible rfl)
  try simp only [Act.put, List.setIfInBounds_toArray, List.set_cons_zero, List.set_cons_succ]
  refine pureE (i := 1) (L := #[true, true, false, false, false, false, false, false]) (v := ?_) rfl (by rfl) (by kernel_rfl) (by kernel_rfl) (by kernel_rfl) (fun _ _ _ h => h) (by rfl) ?hy2 ?rest2
  case hy2 => intro w; go_simp; (try with_reducible rfl)
  try simp only [Act.put, List.setIfInBounds_toArray, List.set_cons_zero, List.set_cons_succ]
  refine pureE (i := 2) (L := #[true, true, true, false, false, false, false, false]) (v := ?_) rfl (by rfl) (by kernel_rfl) (by kernel_rfl) (by kernel_rfl) (fun _ _ _ h => h) (by rfl) ?hy3 ?rest3
  case hy3 => intro w; go_simp; (try with_reducible rfl)
  try simp only [Act.put, List.setIfInBounds_toArray, List.set_cons_zero, List.set_cons_succ]
  refine pureE (i := 3) (L := #[true, true, true, true, false, false, false, false]) (v := ?_) rfl (by rfl) (by kernel_rfl) (by kernel_rfl) (by kernel_rfl) (fun _ _ _ h => h) (by rfl) ?hy4 ?rest4
  case hy4 => intro w; go_simp; (try with_reducible rfl)
  try simp only [Act.put, List.setIfInBounds_toArray, List.set_cons_zero, List.set_cons_succ]
  refine pureE (i := 4) (L := #[true, true, true, true, true, false, false, false]) (v := ?_) rfl (by rfl) (by kernel_rfl) (by kernel_rfl) (by kernel_rfl) (fun _ _ _ h => h) (by rfl) ?hy5 ?rest5
  case hy5 => intro w; go_simp; (try with_reducible rfl)
  try simp only [Act.put, List.setIfInBounds_toArray, List.set_cons_zero, List.set_cons_succ]
  refine pureE (i := 5) (L := #[true, true, true, true, true, true, false, false]) (v := ?_) rfl (by rfl) (by kernel_rfl) (by kernel_rfl) (by kernel_rfl) (fun _ _ _ h => h) (by rfl) ?hy6 ?rest6
  case hy6 => intro w; go_simp; (try with_reducible rfl)
  try simp only [Act.put, List.setIfInBounds_toArray, List.set_cons_zero, List.set_cons_succ]
  refine pureE (i := 6) (L := #[true, true, true, true, true, true, true, false]) (v := ?_) rfl (by rfl) (by kernel_rfl) (by kernel_rfl) (by kernel_rfl) (fun _ _ _ h => h) (by rfl) ?hy7 ?rest7
  case hy7 => intro w; go_simp; (try with_reducible rfl)
  try simp only [Act.put, List.setIfInBounds_toArray, List.set_cons_zero, List.set_cons_succ]
  have c0 := cell_of_row w2 w.heap.size 0 _ _ _ X2
  have c1 := cell_of_row w2 w.heap.size 1 _ _ _ X2
  have f0 := frozen_of_row w2 w.heap.size 0 _ _ X2
  have f1 := frozen_of_row w2 w.heap.size 1 _ _ X2
  refine stepK (i := 7) (L := #[true, true, true, true, true, true, true, true]) rfl (by rfl) (by kernel_rfl) (by rfl) (fun K hK => ?_)
  go_simp
  refine hK _ _ ⟨fun h => absurd h (by decide), ?_⟩
  clear hK K c0 c1 f0 f1
  try simp only [Act.put, List.setIfInBounds_toArray, List.set_cons_zero, List.set_cons_succ]
  have X3 : ((w2.setCell ⟨w.heap.size, 0, none⟩ (.pointer (some ⟨g, 6, none⟩))).setCell ⟨w.heap.size, 1, none⟩ (.pointer (some ⟨g, 9, none⟩))).heap[w.heap.size]? = some (.cells #[.pointer (some ⟨g, 6, none⟩), .pointer (some ⟨g, 9, none⟩)] 102 (0, 0)) := by
    simp [World.setCell, Array.getElem?_modify, X2]
  have hb3 : Below w.heap.size w ((w2.setCell ⟨w.heap.size, 0, none⟩ (.pointer (some ⟨g, 6, none⟩))).setCell ⟨w.heap.size, 1, none⟩ (.pointer (some ⟨g, 9, none⟩))) := (hb2.setCell (Nat.le_refl _) _).setCell (Nat.le_refl _) _
  generalize ((w2.setCell ⟨w.heap.size, 0, none⟩ (.pointer (some ⟨g, 6, none⟩))).setCell ⟨w.heap.size, 1, none⟩ (.pointer (some ⟨g, 9, none⟩))) = U at *
  refine doneE (by kernel_rfl) ?_ _
  go_wp2
  have c0 := cell_of_row U w.heap.size 0 _ _ _ X3
  have c1 := cell_of_row U w.heap.size 1 _ _ _ X3
  exact bodyPost_ret (v := .agg #[.pointer (some ⟨g, 6, none⟩), .pointer (some ⟨g, 9, none⟩)]) (by simp [results, Tryd.results78, go_sem, c0, c1]) rfl ⟨rfl, hb3⟩
/-- The middle, and what lacks. -/
def midD (a b : Dn) : (Dn × Dn) × Int :=
  if (addD a b).2 = 0 ∧ (halfD (addD a b).1).2 = 0 ∧ (subD (halfD (addD a b).1).1 a).2 = 0 then (((halfD (addD a b).1).1, (subD (halfD (addD a b).1).1 a).1), 0) else ((Dn.zero, Dn.zero), 10)
end Ma
end Go.Proofs.YtlbkepiflhchdaaDoor
