/- mean.Far: walks (printed by a program of mine). -/
import Derived.Test.YtlbkepiflhchdaaDoorBa12
import Derived.Test.YtlbkepiflhchdaaDoorBa11
namespace Go.Proofs.YtlbkepiflhchdaaDoor
open Go.RowKit
namespace Ma
open Dp Dy
/-- Two dyads in a row. -/
def TBox (w : World) (g : Nat) (x y : Dv) : Prop := w.heap[g]? = some (.cells #[.bool x.s, .slice x.A x.n x.c, .int .i64 x.e, .bool y.s, .slice y.A y.n y.c, .int .i64 y.e] 98 (0, 0))
theorem TBox.cells {w : World} {g : Nat} {x y : Dv} (h : TBox w g x y) : (w.cell? ⟨g, 0, none⟩ = some (.bool x.s) ∧ w.cell? ⟨g, 1, none⟩ = some (.slice x.A x.n x.c) ∧ w.cell? ⟨g, 2, none⟩ = some (.int .i64 x.e) ∧ w.cell? ⟨g, 3, none⟩ = some (.bool y.s) ∧ w.cell? ⟨g, 4, none⟩ = some (.slice y.A y.n y.c) ∧ w.cell? ⟨g, 5, none⟩ = some (.int .i64 y.e)) ∧ ∀ k, w.frozen? ⟨g, k, none⟩ = false :=
  ⟨⟨cell_of_row w g 0 _ _ _ h, cell_of_row w g 1 _ _ _ h, cell_of_row w g 2 _ _ _ h, cell_of_row w g 3 _ _ _ h, cell_of_row w g 4 _ _ _ h, cell_of_row w g 5 _ _ _ h⟩, fun k => frozen_of_row w g k _ _ h⟩
theorem TBox.put0 {w : World} {g : Nat} {x y : Dv} (h : TBox w g x y) (d : Dv) : TBox (((w.setCell ⟨g, 0, none⟩ (.bool d.s)).setCell ⟨g, 1, none⟩ (.slice d.A d.n d.c)).setCell ⟨g, 2, none⟩ (.int .i64 d.e)) g d y := by
  unfold TBox at h
  simp [TBox, World.setCell, Array.getElem?_modify, h]
theorem TBox.put1 {w : World} {g : Nat} {x y : Dv} (h : TBox w g x y) (d : Dv) : TBox (((w.setCell ⟨g, 3, none⟩ (.bool d.s)).setCell ⟨g, 4, none⟩ (.slice d.A d.n d.c)).setCell ⟨g, 5, none⟩ (.int .i64 d.e)) g x d := by
  unfold TBox at h
  simp [TBox, World.setCell, Array.getElem?_modify, h]
def ZDv : Dv := ⟨false, none, 0, 0, 0, []⟩
/-- What stands amid Far's rounds. -/
def FarI (lo : Nat) (c a : Dn) (qc qa : Int) (i : Nat) (wr : World) (X Y : Dv) : Prop :=
  (i = 0 ∧ X = ZDv ∧ Y = ZDv) ∨ (i = 1 ∧ Is c X ∧ qc = 0 ∧ Ints wr lo wr.heap.size .u32 X.A X.n X.xs ∧ Y = ZDv) ∨
  (i = 2 ∧ Is c X ∧ qc = 0 ∧ Is a Y ∧ qa = 0 ∧ ∃ B1, lo ≤ B1 ∧ B1 ≤ wr.heap.size ∧ Ints wr lo B1 .u32 X.A X.n X.xs ∧ Ints wr B1 wr.heap.size .u32 Y.A Y.n Y.xs)
theorem far_codes {ms : List Mv} {c a : Dn} {qc qa : Int} (h1 : farL (colM 2 ms) = (c, qc)) (h2 : farL (colM 3 ms) = (a, qa)) (hl : ms.length ≤ 4096) (hm : ∀ m ∈ ms, m.may) {X Y : Dn} {code : Int} (h : farM ms = ((X, Y), code)) :
    (qc = 0 ∨ ((qc = 6 ∨ qc = 10) ∧ code = qc ∧ X = Dn.zero ∧ Y = Dn.zero)) ∧ (qc = 0 → qa = 0 ∨ (qa = 10 ∧ code = 10 ∧ X = Dn.zero ∧ Y = Dn.zero)) ∧ (qc = 0 → qa = 0 → X = c ∧ Y = a ∧ code = 0) := by
  unfold farM at h
  rw [if_neg (by omega), if_neg (fun ⟨m, h, hn⟩ => hn (hm m h)), h1, h2] at h
  by_cases he : ms = []
  · subst he
    have e1 : (c, qc) = (Dn.zero, 6) := h1.symm.trans farL_nil
    have e2 : (a, qa) = (Dn.zero, 6) := h2.symm.trans farL_nil
    injection e1 with _ e1
    injection e2 with _ e2
    subst e1 e2
    rw [if_neg (by simp), if_pos rfl] at h
    injection h with h h3
    injection h with h4 h5
    exact ⟨.inr ⟨.inl rfl, h3.symm, h4.symm, h5.symm⟩, fun k => absurd k (by decide), fun k => absurd k (by decide)⟩
  · have k1 : qc = 0 ∨ (c, qc) = (Dn.zero, 10) := by
      have := farL_two (l := colM 2 ms) (by simpa [colM] using he)
      rw [h1] at this
      exact this
    have k2 : qa = 0 ∨ (a, qa) = (Dn.zero, 10) := by
      have := farL_two (l := colM 3 ms) (by simpa [colM] using he)
      rw [h2] at this
      exact this
    rw [if_neg he] at h
    rcases k1 with k1 | k1
    · subst k1
      rcases k2 with k2 | k2
      · subst k2
        rw [if_pos ⟨rfl, rfl⟩] at h
        injection h with h h3
        injection h with h4 h5
        exact ⟨.inl rfl, fun _ => .inl rfl, fun _ _ => ⟨h4.symm, h5.symm, h3.symm⟩⟩
      · injection k2 with _ k2
        subst k2
        rw [if_neg (by simp)] at h
        injection h with h h3
        injection h with h4 h5
        exact ⟨.inl rfl, fun _ => .inr ⟨rfl, h3.symm, h4.symm, h5.symm⟩, fun _ k => absurd k (by decide)⟩
    · injection k1 with _ k1
      subst k1
      rw [if_neg (by simp)] at h
      injection h with h h3
      injection h with h4 h5
      exact ⟨.inr ⟨.inr rfl, h3.symm, h4.symm, h5.symm⟩, fun k => absurd k (by decide), fun k => absurd k (by decide)⟩
theorem zput {w : World} {g : Nat} {x y z : Value} {t : TypeId} (h : w.heap[g]? = some (.cells #[x, y, z] t (0, 0))) (a b c : Value) : ∃ U, ((w.setCell ⟨g, 0, none⟩ a).setCell ⟨g, 1, none⟩ b).setCell ⟨g, 2, none⟩ c = U ∧ U.heap[g]? = some (.cells #[a, b, c] t (0, 0)) ∧ (∀ w0 B, Below B w0 w → B ≤ g → Below B w0 U) ∧ (∀ j, j ≠ g → U.heap[j]? = w.heap[j]?) ∧ U.heap.size ≤ w.heap.size ∧ w.heap.size ≤ U.heap.size :=
  ⟨_, rfl, box_put h a b c, fun _ _ hb hg => below_put hb hg _ _ _, fun _ hj => box_far (Ne.symm hj) _ _ _, Nat.le_of_eq (size_put _ _ _), Nat.le_of_eq (size_put _ _ _).symm⟩
set_option maxHeartbeats 6400000 in
set_option maxRecDepth 100000 in
/-- mean.Far, of too many. -/
theorem Far_many (w : World) (A : Option Addr) (n d : Nat) (hn : 4096 < n) (c a : Dn) (code : Int) (hc : c = Dn.zero) (ha : a = Dn.zero) (hcode : code = 4) :
    Calls Tryd.prog 40 #[.slice A n d] w fun e w' => ∃ X Y : Dv, e = .returned (.tuple #[.agg #[.bool X.s, .slice X.A X.n X.c, .int .i64 X.e], .agg #[.bool Y.s, .slice Y.A Y.n Y.c, .int .i64 Y.e], .int .i64 code]) ∧ Below w.heap.size w w' ∧ Is c X ∧ Is a Y ∧ ∃ B1, w.heap.size ≤ B1 ∧ B1 ≤ w'.heap.size ∧ Ints w' w.heap.size B1 .u32 X.A X.n X.xs ∧ Ints w' B1 w'.heap.size .u32 Y.A Y.n Y.xs := by
  subst hc ha hcode
  generalize hw : (w.alloc (.cells #[.bool false, .slice none 0 0, .int .i64 0] 24)).alloc (.cells #[.bool false, .slice none 0 0, .int .i64 0] 24) = u
  obtain ⟨hRC, hRA, hb, lo1, hi1⟩ := boxes2 w _ _ hw
  replace hRC : u.heap[w.heap.size]? = some (.cells #[.bool false, .slice none 0 0, .int .i64 0] 24 (0, 0)) := hRC
  replace hRA : u.heap[w.heap.size + 1]? = some (.cells #[.bool false, .slice none 0 0, .int .i64 0] 24 (0, 0)) := hRA
  replace hb : Below w.heap.size w u := hb
  obtain ⟨⟨z0, z1, z2⟩, z3, z4, z5⟩ := boxD hRC
  obtain ⟨⟨y0, y1, y2⟩, y3, y4, y5⟩ := boxD hRA
  go_enter Tryd.func40, Tryd.ntmps40
  go_wp2
  try clear hw
  obtain ⟨U1, hu1, hX1, hb1, hf1, hs1, hs1'⟩ := zput hRC (.bool false) (.slice none 0 0) (.int .i64 0)
  rw [hu1]
  obtain ⟨U2, hu2, hX2, hb2, hf2, hs2, hs2'⟩ := zput (show U1.heap[w.heap.size + 1]? = some (.cells #[.bool false, .slice none 0 0, .int .i64 0] 24 (0, 0)) from (hf1 _ (by omega)).trans hRA) (.bool false) (.slice none 0 0) (.int .i64 0)
  rw [hu2]
  replace hX1 := (hf2 w.heap.size (by omega)).trans hX1
  have hQ := hb2 _ _ (hb1 _ _ hb (Nat.le_refl _)) (by omega)
  clear hu1 hu2 z0 z1 z2 z3 z4 z5 y0 y1 y2 y3 y4 y5
  obtain ⟨⟨z0, z1, z2⟩, _⟩ := boxD hX1
  obtain ⟨⟨y0, y1, y2⟩, _⟩ := boxD hX2
  exact bodyPost_ret (v := .tuple #[.agg #[.bool false, .slice none 0 0, .int .i64 0], .agg #[.bool false, .slice none 0 0, .int .i64 0], .int .i64 4]) (by simp [results, Tryd.results40, go_sem, z0, z1, z2, y0, y1, y2]) rfl ⟨ZDv, ZDv, rfl, hQ, Is.zero, Is.zero, w.heap.size, Nat.le_refl _, by omega, Ints.nil_ .., Ints.nil_ ..⟩
set_option maxHeartbeats 51200000 in
set_option maxRecDepth 100000 in
/-- mean.Far. -/
theorem Far_num (w : World) (A : Option Addr) (n d : Nat) (ms : List Mv) (hL : LMs w 0 w.heap.size A n ms) (hn : n ≤ 4096) (hT : Tab w) (c a : Dn) (code : Int) (h : farM ms = ((c, a), code)) :
    Calls Tryd.prog 40 #[.slice A n d] w fun e w' => ∃ X Y : Dv, e = .returned (.tuple #[.agg #[.bool X.s, .slice X.A X.n X.c, .int .i64 X.e], .agg #[.bool Y.s, .slice Y.A Y.n Y.c, .int .i64 Y.e], .int .i64 code]) ∧ Below w.heap.size w w' ∧ Is c X ∧ Is a Y ∧ ∃ B1, w.heap.size ≤ B1 ∧ B1 ≤ w'.heap.size ∧ Ints w' w.heap.size B1 .u32 X.A X.n X.xs ∧ Ints w' B1 w'.heap.size .u32 Y.A Y.n Y.xs := by
  have HL := Lib.hid hL.len
  have H := Lib.hid h
  clear h
  obtain ⟨i0, hi0, hz0, hz1, hz2⟩ := info_parts infoM
  have g0 := hT.lt
  generalize hw : (w.alloc (.cells #[.bool false, .slice none 0 0, .int .i64 0] 24)).alloc (.cells #[.bool false, .slice none 0 0, .int .i64 0] 24) = w1
  obtain ⟨hRC, hRA, hb, lo1, hi1⟩ := boxes2 w _ _ hw
  replace hRC : w1.heap[w.heap.size]? = some (.cells #[.bool false, .slice none 0 0, .int .i64 0] 24 (0, 0)) := hRC
  replace hRA : w1.heap[w.heap.size + 1]? = some (.cells #[.bool false, .slice none 0 0, .int .i64 0] 24 (0, 0)) := hRA
  replace hb : Below w.heap.size w w1 := hb
  go_enter Tryd.func40, Tryd.ntmps40
  go_wp2
  try clear hw
  clear hi1
  go_loopw [4, 6, 7, 21] (fun ev _ _ iv wr => ∃ i : Nat, iv = .int .i64 i ∧ ev = .int .i64 0 ∧ i ≤ n ∧ wr.heap[w.heap.size]? = some (.cells #[.bool false, .slice none 0 0, .int .i64 0] 24 (0, 0)) ∧ wr.heap[w.heap.size + 1]? = some (.cells #[.bool false, .slice none 0 0, .int .i64 0] 24 (0, 0)) ∧ Below w.heap.size w wr ∧ w.heap.size + 2 ≤ wr.heap.size ∧ Hid (∀ j (h : j < ms.length), j < i → ms[j].may)) (fun _ _ _ iv _ => n - (intOf iv).toNat)
  case atStart => exact ⟨0, rfl, rfl, Nat.zero_le _, hRC, hRA, hb, lo1, Lib.hid fun j h hj => absurd hj (Nat.not_lt_zero _)⟩
  case round =>
    clear hRC hRA hb lo1
    obtain ⟨i, rfl, rfl, hi1, hRC, hRA, hb, lo1, hall⟩ := hrel
    have hLr := hL.below hb (Nat.le_refl _)
    by_cases hlt : i < n
    · skip
      have hi2 : i < ms.length := by rw [HL.out]; exact hlt
      obtain ⟨b, off, hA, h1, h2, hc⟩ := hLr.row (by omega)
      have hci := hc i hi2
      have hri := hLr.rows i hi2
      obtain ⟨d, hd⟩ : ∃ d, ms[i] = d := ⟨_, rfl⟩
      rw [hd] at hci hri
      have HD := Lib.hid hd
      clear hd hc
      subst hA
      clear hLr
      obtain ⟨k0, k1, k2, k3, k4, k5, k6, k7, k8, k9, k10, k11⟩ := hci
      have hwr : IntKind.i64.wrap ((i : Int) + 1) = ((i + 1 : Nat) : Int) := by rw [IntKind.wrap_i64]; omega
      have hBL := (Below.refl wr.heap.size wr).alloc (Nat.le_refl _) (.cells #[.bool d.S.s, .slice d.S.A d.S.n d.S.c, .int .i64 d.S.e, .bool d.W.s, .slice d.W.A d.W.n d.W.c, .int .i64 d.W.e, .bool d.C.s, .slice d.C.A d.C.n d.C.c, .int .i64 d.C.e, .bool d.A.s, .slice d.A.A d.A.n d.A.c, .int .i64 d.A.e] 39)
      have hM2 : MBox (wr.alloc (.cells #[.bool d.S.s, .slice d.S.A d.S.n d.S.c, .int .i64 d.S.e, .bool d.W.s, .slice d.W.A d.W.n d.W.c, .int .i64 d.W.e, .bool d.C.s, .slice d.C.A d.C.n d.C.c, .int .i64 d.C.e, .bool d.A.s, .slice d.A.A d.A.n d.A.c, .int .i64 d.A.e] 39)) wr.heap.size d := heap_alloc_last _ _
      have l2 : wr.heap.size < (wr.alloc (.cells #[.bool d.S.s, .slice d.S.A d.S.n d.S.c, .int .i64 d.S.e, .bool d.W.s, .slice d.W.A d.W.n d.W.c, .int .i64 d.W.e, .bool d.C.s, .slice d.C.A d.C.n d.C.c, .int .i64 d.C.e, .bool d.A.s, .slice d.A.A d.A.n d.A.c, .int .i64 d.A.e] 39)).heap.size := by simp
      generalize hw2 : wr.alloc (.cells #[.bool d.S.s, .slice d.S.A d.S.n d.S.c, .int .i64 d.S.e, .bool d.W.s, .slice d.W.A d.W.n d.W.c, .int .i64 d.W.e, .bool d.C.s, .slice d.C.A d.C.n d.C.c, .int .i64 d.C.e, .bool d.A.s, .slice d.A.A d.A.n d.A.c, .int .i64 d.A.e] 39) = u1 at *
      obtain ⟨⟨y0, y1, y2, y3, y4, y5, y6, y7, y8, y9, y10, y11⟩, yf⟩ := MBox.cells hM2
      have hr2 : MRows u1 0 u1.heap.size d := (hri.below hBL (by omega)).more (Nat.le_refl _) (by have := hBL.size; omega)
      obtain ⟨q, hq⟩ : ∃ q, chkM d = q := ⟨_, rfl⟩
      have HQ := Lib.hid hq
      clear hq hri
      go_wp2_with fail
      refine (MCheck_any u1 d hr2 q HQ.out).mono ?_
      rintro e w3 ⟨rfl, hB⟩
      clear k0 k1 k2 k3 k4 k5 k6 k7 k8 k9 k10 k11 y0 y1 y2 y3 y4 y5 y6 y7 y8 y9 y10 y11 yf hw2 hr2
      have l3 := hB.size
      replace hRC := (hB.block _ (by omega)).trans ((hBL.block _ (by omega)).trans hRC)
      replace hRA := (hB.block _ (by omega)).trans ((hBL.block _ (by omega)).trans hRA)
      replace hb := (hb.trans (hBL.mono (by omega))).trans (hB.mono (by omega))
      clear hB hBL hM2
      by_cases hm : d.may
      · have hq0 : q = 0 := HQ.out.symm.trans (chk_may hm)
        subst hq0
        go_wp2
        go_roundw
        case rel => exact ⟨i + 1, by first | rfl | (congr 1; omega) | go_num, rfl, by omega, hRC, hRA, hb, by omega, Lib.hid fun j hj hji => by
          by_cases e : j = i
          · subst e
            rw [HD.out]
            exact hm
          · exact hall.out j hj (by omega)⟩
        case measure => first | (simp [intOf]; done) | (simp [intOf]; omega)
      · have hq0 : q = 8 := HQ.out.symm.trans (chk_not hm)
        subst hq0
        have hcode : ((Dn.zero, Dn.zero), (8 : Int)) = ((c, a), code) := by
          have e := H.out
          unfold farM at e
          rw [if_neg (by rw [HL.out]; omega), if_pos ⟨ms[i], List.getElem_mem hi2, by rw [HD.out]; exact hm⟩] at e
          exact e
        injection hcode with hcode hcd
        injection hcode with hcc hca
        subst hcc hca hcd
        obtain ⟨⟨z0, z1, z2⟩, z3, z4, z5⟩ := boxD hRC
        obtain ⟨⟨y0, y1, y2⟩, y3, y4, y5⟩ := boxD hRA
        go_wp2
        obtain ⟨U1, hu1, hX1, hb1, hf1, hs1, hs1'⟩ := zput hRC (.bool false) (.slice none 0 0) (.int .i64 0)
        rw [hu1]
        obtain ⟨U2, hu2, hX2, hb2, hf2, hs2, hs2'⟩ := zput (show U1.heap[w.heap.size + 1]? = some (.cells #[.bool false, .slice none 0 0, .int .i64 0] 24 (0, 0)) from (hf1 _ (by omega)).trans hRA) (.bool false) (.slice none 0 0) (.int .i64 0)
        rw [hu2]
        replace hX1 := (hf2 w.heap.size (by omega)).trans hX1
        have hQ := hb2 _ _ (hb1 _ _ hb (Nat.le_refl _)) (by omega)
        clear hu1 hu2 z0 z1 z2 z3 z4 z5 y0 y1 y2 y3 y4 y5
        obtain ⟨⟨z0, z1, z2⟩, _⟩ := boxD hX1
        obtain ⟨⟨y0, y1, y2⟩, _⟩ := boxD hX2
        exact bodyPost_ret (v := .tuple #[.agg #[.bool false, .slice none 0 0, .int .i64 0], .agg #[.bool false, .slice none 0 0, .int .i64 0], .int .i64 8]) (by simp [results, Tryd.results40, go_sem, z0, z1, z2, y0, y1, y2]) rfl ⟨ZDv, ZDv, rfl, hQ, Is.zero, Is.zero, w.heap.size, Nat.le_refl _, by omega, Ints.nil_ .., Ints.nil_ ..⟩
    · skip
      have hin : n ≤ i := by omega
      have hmay : Hid (∀ j (h : j < ms.length), ms[j].may) := Lib.hid fun j h => hall.out j h (by have := HL.out; omega)
      obtain ⟨c1, qc, hc1⟩ : ∃ c q, farL (colM 2 ms) = (c, q) := ⟨_, _, rfl⟩
      obtain ⟨a1, qa, ha1⟩ : ∃ a q, farL (colM 3 ms) = (a, q) := ⟨_, _, rfl⟩
      obtain ⟨F1, F2, F3⟩ := far_codes hc1 ha1 (by rw [HL.out]; exact hn) (fun m hm => by
        obtain ⟨j, hj, e⟩ := List.getElem_of_mem hm
        exact e ▸ hmay.out j hj) H.out
      replace F1 := Lib.hid F1
      replace F2 := Lib.hid F2
      replace F3 := Lib.hid F3
      have HC1 := Lib.hid hc1
      have HA1 := Lib.hid ha1
      clear hc1 ha1 hall hLr
      obtain ⟨wo, hwo⟩ : ∃ W : World, W = wr := ⟨_, rfl⟩
      subst hwo
      generalize hw5 : wo.alloc (.cells #[.bool false, .slice none 0 0, .int .i64 0, .bool false, .slice none 0 0, .int .i64 0] 98) = w5
      have hBT : Below wo.heap.size wo w5 := by rw [← hw5]; exact (Below.refl _ _).alloc (Nat.le_refl _) _
      have hTB : TBox w5 wo.heap.size ZDv ZDv := by rw [← hw5]; exact heap_alloc_last _ _
      have l5 : wo.heap.size < w5.heap.size := by rw [← hw5]; simp
      replace hRC := (hBT.block _ (by omega)).trans hRC
      replace hRA := (hBT.block _ (by omega)).trans hRA
      replace hb := hb.trans (hBT.mono (by omega))
      go_wp2
      try clear hw5
      clear hBT
      go_loopw [4, 9, 10, 11, 13, 33] (fun ev _ _ _ _ iv wr => ∃ (i : Nat) (X Y : Dv), iv = .int .i64 i ∧ ev = .int .i64 0 ∧ i ≤ 2 ∧ TBox wr wo.heap.size X Y ∧ wr.heap[w.heap.size]? = some (.cells #[.bool false, .slice none 0 0, .int .i64 0] 24 (0, 0)) ∧ wr.heap[w.heap.size + 1]? = some (.cells #[.bool false, .slice none 0 0, .int .i64 0] 24 (0, 0)) ∧ Below w.heap.size w wr ∧ wo.heap.size < wr.heap.size ∧ Hid (FarI (wo.heap.size + 1) c1 a1 qc qa i wr X Y)) (fun _ _ _ _ _ iv _ => 2 - (intOf iv).toNat)
      case atStart => exact ⟨0, ZDv, ZDv, rfl, rfl, by decide, hTB, hRC, hRA, hb, l5, Lib.hid (.inl ⟨rfl, rfl, rfl⟩)⟩
      case round =>
        clear hTB hRC hRA hb l5
        obtain ⟨i, X, Y, rfl, rfl, hi2, hTB, hRC, hRA, hb, l5, hI⟩ := hrel
        obtain ⟨wo2, hwo2⟩ : ∃ W : World, W = wr := ⟨_, rfl⟩
        subst hwo2
        have hi3 : i = 0 ∨ i = 1 ∨ i = 2 := by omega
        rcases hi3 with rfl | rfl | rfl
        · skip
          have hXY := hI.out
          clear hI
          replace hXY : X = ZDv ∧ Y = ZDv := by
            rcases hXY with h | h | h
            · exact h.2
            · exact absurd h.1 (by decide)
            · exact absurd h.1 (by decide)
          replace hXY := Lib.hid hXY
          go_wp2_with fail
          refine (ends_any wo2).mono ?_
          rintro e w2 ⟨rfl, hB, Xgl, Xgh⟩
          have l2 := hB.size
          have lgh : wo2.heap.size + 1 < w2.heap.size := lt_of_heap Xgh
          have hPr : ∀ j, j < wo2.heap.size → w2.heap[j]? = wo2.heap[j]? := fun j hj => hB.block j (by omega)
          have hb2 := hb.trans (hB.mono (by omega))
          have tT := hT.below hb2 hT.lt
          clear hB
          have hE0 : Ends w2 w.heap.size wo2.heap.size (wo2.heap.size + 1) (endsL ((colM 2 ms).take 0)) := by
            rw [List.take_zero, endsL_nil]
            exact ⟨Xgl, Xgh⟩
          clear Xgl Xgh
          go_wp2
          go_loopw [13, 42] (fun _ kv wr => ∃ k : Nat, kv = .int .i64 k ∧ k ≤ n ∧ Ends wr w.heap.size wo2.heap.size (wo2.heap.size + 1) (endsL ((colM 2 ms).take k)) ∧ Below wo2.heap.size w2 wr ∧ w2.heap.size ≤ wr.heap.size) (fun _ kv _ => n - (intOf kv).toNat)
          case atStart => exact ⟨0, rfl, Nat.zero_le _, hE0, Below.refl _ _, Nat.le_refl _⟩
          case round =>
            clear hE0
            obtain ⟨k, rfl, hk1, hE, hbw, lw⟩ := hrel
            have hb3 := hb2.trans (hbw.mono (by omega))
            have hLr := hL.below hb3 (Nat.le_refl _)
            have tT3 := hT.below hb3 hT.lt
            by_cases hlt : k < n
            · skip
              have hi2 : k < ms.length := by rw [HL.out]; exact hlt
              obtain ⟨b, off, hA, h1, h2, hc⟩ := hLr.row (by omega)
              have hci := hc k hi2
              have hri := hLr.rows k hi2
              obtain ⟨d, hd⟩ : ∃ d, ms[k] = d := ⟨_, rfl⟩
              rw [hd] at hci hri
              have HD := Lib.hid hd
              clear hd hc
              subst hA
              clear hLr
              obtain ⟨k0, k1, k2, k3, k4, k5, k6, k7, k8, k9, k10, k11⟩ := hci
              have hwr : IntKind.i64.wrap ((k : Int) + 1) = ((k + 1 : Nat) : Int) := by rw [IntKind.wrap_i64]; omega
              have hBL := (Below.refl wr.heap.size wr).alloc (Nat.le_refl _) (.cells #[.bool d.S.s, .slice d.S.A d.S.n d.S.c, .int .i64 d.S.e, .bool d.W.s, .slice d.W.A d.W.n d.W.c, .int .i64 d.W.e, .bool d.C.s, .slice d.C.A d.C.n d.C.c, .int .i64 d.C.e, .bool d.A.s, .slice d.A.A d.A.n d.A.c, .int .i64 d.A.e] 39)
              have hM2 : MBox (wr.alloc (.cells #[.bool d.S.s, .slice d.S.A d.S.n d.S.c, .int .i64 d.S.e, .bool d.W.s, .slice d.W.A d.W.n d.W.c, .int .i64 d.W.e, .bool d.C.s, .slice d.C.A d.C.n d.C.c, .int .i64 d.C.e, .bool d.A.s, .slice d.A.A d.A.n d.A.c, .int .i64 d.A.e] 39)) wr.heap.size d := heap_alloc_last _ _
              have l2 : wr.heap.size < (wr.alloc (.cells #[.bool d.S.s, .slice d.S.A d.S.n d.S.c, .int .i64 d.S.e, .bool d.W.s, .slice d.W.A d.W.n d.W.c, .int .i64 d.W.e, .bool d.C.s, .slice d.C.A d.C.n d.C.c, .int .i64 d.C.e, .bool d.A.s, .slice d.A.A d.A.n d.A.c, .int .i64 d.A.e] 39)).heap.size := by simp
              generalize hw2 : wr.alloc (.cells #[.bool d.S.s, .slice d.S.A d.S.n d.S.c, .int .i64 d.S.e, .bool d.W.s, .slice d.W.A d.W.n d.W.c, .int .i64 d.W.e, .bool d.C.s, .slice d.C.A d.C.n d.C.c, .int .i64 d.C.e, .bool d.A.s, .slice d.A.A d.A.n d.A.c, .int .i64 d.A.e] 39) = u1 at *
              obtain ⟨⟨y0, y1, y2, y3, y4, y5, y6, y7, y8, y9, y10, y11⟩, yf⟩ := MBox.cells hM2
              have hmd : Hid d.may := Lib.hid (by have := hmay.out k hi2; rw [HD.out] at this; exact this)
              have hEu : Ends u1 w.heap.size wo2.heap.size (wo2.heap.size + 1) (endsL ((colM 2 ms).take k)) := hE.below hBL (by omega) (by omega)
              clear hE
              go_wp2_with fail
              refine (pair_any u1 wr.heap.size).mono ?_
              rintro e u2 ⟨rfl, hB⟩
              clear k0 k1 k2 k3 k4 k5 k6 k7 k8 k9 k10 k11 y0 y1 y2 y3 y4 y5 y6 y7 y8 y9 y10 y11 yf hw2
              have l3 := hB.size
              have hM3 : MBox u2 wr.heap.size d := (hB.block _ (by omega)).trans hM2
              have hE3 := hEu.below hB (Nat.le_refl _) (by omega)
              have t3 : Tab u2 := (tT3.below hBL (by have := tT3.lt; omega)).below hB (by have := tT3.lt; omega)
              have hr3 : MRows u2 0 w.heap.size d := (hri.below hBL (by omega)).below hB (by omega)
              have hbu : Below wo2.heap.size w2 u2 := (hbw.trans (hBL.mono (by omega))).trans (hB.mono (by omega))
              clear hB hM2 hEu hri hBL
              have ix_ := idx0 (some ⟨wr.heap.size, 6, none⟩) (some ⟨wr.heap.size, 9, none⟩)
              obtain ⟨⟨y0, y1, y2, y3, y4, y5, y6, y7, y8, y9, y10, y11⟩, yf⟩ := MBox.cells hM3
              go_wp2_with fail
              clear ix_
              refine (put_any u2 w.heap.size wo2.heap.size (wo2.heap.size + 1) (by omega) (by omega) (by omega) (endsL ((colM 2 ms).take k)) hE3 d.C (dnM d 2) (IsM.of hr3 hmd.out 2 (by decide)) (dnM_may hr3 hmd.out 2 (by decide)) hr3.C t3 (by omega)).mono ?_
              rintro e u3 ⟨rfl, hB, _, hE4⟩
              clear y0 y1 y2 y3 y4 y5 y6 y7 y8 y9 y10 y11 yf hM3 hE3 hr3
              have l4 := hB.size
              have hbu4 := hbu.trans hB
              have hE5 : Ends u3 w.heap.size wo2.heap.size (wo2.heap.size + 1) (endsL ((colM 2 ms).take (k + 1))) := by
                rw [endsL_take _ _ (by simpa [colM] using hi2)]
                have e : (colM 2 ms)[k]'(by simpa [colM] using hi2) = dnM d 2 := by simp [colM, HD.out]
                rw [e]
                exact hE4
              clear hE4 hB hbu
              go_wp2
              go_roundw
              case rel => exact ⟨k + 1, by first | rfl | (congr 1; omega) | go_num, by omega, hE5, hbu4, by omega⟩
              case measure => first | (simp [intOf]; done) | (simp [intOf]; omega)
            · skip
              have hG : gapE (endsL ((colM 2 ms).take k)) = (c1, qc) := by
                rw [List.take_of_length_le (by simp [colM]; have := HL.out; omega), ← farL_gap]
                exact HC1.out
              have HG := Lib.hid hG
              clear hG hLr
              go_wp2_with fail
              refine (gap_any wr w.heap.size wo2.heap.size (wo2.heap.size + 1) (by omega) _ hE tT3 c1 qc HG.out).mono ?_
              rintro e w4 ⟨D, rfl, hB, iD, _, ID⟩
              replace iD := Lib.hid iD
              have l4 := hB.size
              have hPr4 : ∀ j, j < wo2.heap.size → w4.heap[j]? = wo2.heap[j]? := fun j hj => (hB.block j (by omega)).trans ((hbw.block j hj).trans (hPr j hj))
              have hb4 := hb3.trans (hB.mono (by omega))
              have hTB4 : TBox w4 wo.heap.size X Y := (hPr4 _ (by omega)).trans hTB
              have hRC4 : w4.heap[w.heap.size]? = some (.cells #[.bool false, .slice none 0 0, .int .i64 0] 24 (0, 0)) := (hPr4 _ (by omega)).trans hRC
              have hRA4 : w4.heap[w.heap.size + 1]? = some (.cells #[.bool false, .slice none 0 0, .int .i64 0] 24 (0, 0)) := (hPr4 _ (by omega)).trans hRA
              clear hB hE hb3 hbw hPr hTB hRC hRA tT3 hb2
              obtain ⟨⟨k0, k1, k2, k3, k4, k5⟩, kf⟩ := TBox.cells hTB4
              have hTB5 : TBox (((w4.setCell ⟨wo.heap.size, 0, none⟩ (.bool D.s)).setCell ⟨wo.heap.size, 1, none⟩ (.slice D.A D.n D.c)).setCell ⟨wo.heap.size, 2, none⟩ (.int .i64 D.e)) wo.heap.size D Y := hTB4.put0 D
              have hf5 : ∀ j, j ≠ wo.heap.size → (((w4.setCell ⟨wo.heap.size, 0, none⟩ (.bool D.s)).setCell ⟨wo.heap.size, 1, none⟩ (.slice D.A D.n D.c)).setCell ⟨wo.heap.size, 2, none⟩ (.int .i64 D.e)).heap[j]? = w4.heap[j]? := fun j hj => far3 hj _ _ _
              have hb5 : Below w.heap.size w (((w4.setCell ⟨wo.heap.size, 0, none⟩ (.bool D.s)).setCell ⟨wo.heap.size, 1, none⟩ (.slice D.A D.n D.c)).setCell ⟨wo.heap.size, 2, none⟩ (.int .i64 D.e)) := below3 hb4 (by omega) _ _ _
              have hs5 : (((w4.setCell ⟨wo.heap.size, 0, none⟩ (.bool D.s)).setCell ⟨wo.heap.size, 1, none⟩ (.slice D.A D.n D.c)).setCell ⟨wo.heap.size, 2, none⟩ (.int .i64 D.e)).heap.size = w4.heap.size := size3 _ _ _
              have hQ : Hid (qc = 0) ∨ ((qc = 6 ∨ qc = 10) ∧ code = qc ∧ c = Dn.zero ∧ a = Dn.zero) := F1.out.imp Lib.hid id
              rcases hQ with hQ | ⟨hQ, hcd, hcc, hca⟩
              · skip
                have hQ0 := hQ.out
                subst hQ0
                clear hQ
                go_wp2
                clear k0 k1 k2 k3 k4 k5 kf
                generalize (((w4.setCell ⟨wo.heap.size, 0, none⟩ (.bool D.s)).setCell ⟨wo.heap.size, 1, none⟩ (.slice D.A D.n D.c)).setCell ⟨wo.heap.size, 2, none⟩ (.int .i64 D.e)) = w6 at *
                have l6 : w4.heap.size ≤ w6.heap.size := Nat.le_of_eq hs5.symm
                have l6' : w6.heap.size ≤ w4.heap.size := Nat.le_of_eq hs5
                clear hs5
                have hRC6 := (hf5 w.heap.size (by omega)).trans hRC4
                have hRA6 := (hf5 (w.heap.size + 1) (by omega)).trans hRA4
                clear hRC4 hRA4 hTB4
                go_roundw
                case rel => exact ⟨1, D, Y, by first | rfl | (congr 1; omega) | go_num, rfl, by decide, hTB5, hRC6, hRA6, hb5, by omega, Lib.hid (.inr (.inl ⟨rfl, iD.out, rfl, ((ints_rng ID (w' := w6) (fun b h1 h2 => hf5 b (by omega))).more (by omega) (by omega)), hXY.out.2⟩))⟩
                case measure => first | (simp [intOf]; done) | (simp [intOf]; omega)
              · skip
                subst hcc hca
                rcases hQ with hQ | hQ
                · skip
                  subst hQ
                  subst hcd
                  have hRC6 : (((w4.setCell ⟨wo.heap.size, 0, none⟩ (.bool D.s)).setCell ⟨wo.heap.size, 1, none⟩ (.slice D.A D.n D.c)).setCell ⟨wo.heap.size, 2, none⟩ (.int .i64 D.e)).heap[w.heap.size]? = some (.cells #[.bool false, .slice none 0 0, .int .i64 0] 24 (0, 0)) := (hf5 w.heap.size (by omega)).trans hRC4
                  have hRA6 : (((w4.setCell ⟨wo.heap.size, 0, none⟩ (.bool D.s)).setCell ⟨wo.heap.size, 1, none⟩ (.slice D.A D.n D.c)).setCell ⟨wo.heap.size, 2, none⟩ (.int .i64 D.e)).heap[w.heap.size + 1]? = some (.cells #[.bool false, .slice none 0 0, .int .i64 0] 24 (0, 0)) := (hf5 (w.heap.size + 1) (by omega)).trans hRA4
                  obtain ⟨⟨z0, z1, z2⟩, z3, z4, z5⟩ := boxD hRC6
                  obtain ⟨⟨y0, y1, y2⟩, y3, y4, y5⟩ := boxD hRA6
                  go_wp2
                  clear k0 k1 k2 k3 k4 k5 kf
                  generalize (((w4.setCell ⟨wo.heap.size, 0, none⟩ (.bool D.s)).setCell ⟨wo.heap.size, 1, none⟩ (.slice D.A D.n D.c)).setCell ⟨wo.heap.size, 2, none⟩ (.int .i64 D.e)) = w6 at *
                  obtain ⟨U1, hu1, hX1, hb1, hf1, hs1, hs1'⟩ := zput hRC6 (.bool false) (.slice none 0 0) (.int .i64 0)
                  rw [hu1]
                  obtain ⟨U2, hu2, hX2, hb2, hf2, hs2, hs2'⟩ := zput (show U1.heap[w.heap.size + 1]? = some (.cells #[.bool false, .slice none 0 0, .int .i64 0] 24 (0, 0)) from (hf1 _ (by omega)).trans hRA6) (.bool false) (.slice none 0 0) (.int .i64 0)
                  rw [hu2]
                  replace hX1 := (hf2 w.heap.size (by omega)).trans hX1
                  have hQ := hb2 _ _ (hb1 _ _ hb5 (Nat.le_refl _)) (by omega)
                  clear hu1 hu2 z0 z1 z2 z3 z4 z5 y0 y1 y2 y3 y4 y5
                  obtain ⟨⟨z0, z1, z2⟩, _⟩ := boxD hX1
                  obtain ⟨⟨y0, y1, y2⟩, _⟩ := boxD hX2
                  exact bodyPost_ret (v := .tuple #[.agg #[.bool false, .slice none 0 0, .int .i64 0], .agg #[.bool false, .slice none 0 0, .int .i64 0], .int .i64 6]) (by simp [results, Tryd.results40, go_sem, z0, z1, z2, y0, y1, y2]) rfl ⟨ZDv, ZDv, rfl, hQ, Is.zero, Is.zero, w.heap.size, Nat.le_refl _, by omega, Ints.nil_ .., Ints.nil_ ..⟩
                · skip
                  subst hQ
                  subst hcd
                  have hRC6 : (((w4.setCell ⟨wo.heap.size, 0, none⟩ (.bool D.s)).setCell ⟨wo.heap.size, 1, none⟩ (.slice D.A D.n D.c)).setCell ⟨wo.heap.size, 2, none⟩ (.int .i64 D.e)).heap[w.heap.size]? = some (.cells #[.bool false, .slice none 0 0, .int .i64 0] 24 (0, 0)) := (hf5 w.heap.size (by omega)).trans hRC4
                  have hRA6 : (((w4.setCell ⟨wo.heap.size, 0, none⟩ (.bool D.s)).setCell ⟨wo.heap.size, 1, none⟩ (.slice D.A D.n D.c)).setCell ⟨wo.heap.size, 2, none⟩ (.int .i64 D.e)).heap[w.heap.size + 1]? = some (.cells #[.bool false, .slice none 0 0, .int .i64 0] 24 (0, 0)) := (hf5 (w.heap.size + 1) (by omega)).trans hRA4
                  obtain ⟨⟨z0, z1, z2⟩, z3, z4, z5⟩ := boxD hRC6
                  obtain ⟨⟨y0, y1, y2⟩, y3, y4, y5⟩ := boxD hRA6
                  go_wp2
                  clear k0 k1 k2 k3 k4 k5 kf
                  generalize (((w4.setCell ⟨wo.heap.size, 0, none⟩ (.bool D.s)).setCell ⟨wo.heap.size, 1, none⟩ (.slice D.A D.n D.c)).setCell ⟨wo.heap.size, 2, none⟩ (.int .i64 D.e)) = w6 at *
                  obtain ⟨U1, hu1, hX1, hb1, hf1, hs1, hs1'⟩ := zput hRC6 (.bool false) (.slice none 0 0) (.int .i64 0)
                  rw [hu1]
                  obtain ⟨U2, hu2, hX2, hb2, hf2, hs2, hs2'⟩ := zput (show U1.heap[w.heap.size + 1]? = some (.cells #[.bool false, .slice none 0 0, .int .i64 0] 24 (0, 0)) from (hf1 _ (by omega)).trans hRA6) (.bool false) (.slice none 0 0) (.int .i64 0)
                  rw [hu2]
                  replace hX1 := (hf2 w.heap.size (by omega)).trans hX1
                  have hQ := hb2 _ _ (hb1 _ _ hb5 (Nat.le_refl _)) (by omega)
                  clear hu1 hu2 z0 z1 z2 z3 z4 z5 y0 y1 y2 y3 y4 y5
                  obtain ⟨⟨z0, z1, z2⟩, _⟩ := boxD hX1
                  obtain ⟨⟨y0, y1, y2⟩, _⟩ := boxD hX2
                  exact bodyPost_ret (v := .tuple #[.agg #[.bool false, .slice none 0 0, .int .i64 0], .agg #[.bool false, .slice none 0 0, .int .i64 0], .int .i64 10]) (by simp [results, Tryd.results40, go_sem, z0, z1, z2, y0, y1, y2]) rfl ⟨ZDv, ZDv, rfl, hQ, Is.zero, Is.zero, w.heap.size, Nat.le_refl _, by omega, Ints.nil_ .., Ints.nil_ ..⟩
        · skip
          have hI' : Is c1 X ∧ qc = 0 ∧ Ints wo2 (wo.heap.size + 1) wo2.heap.size .u32 X.A X.n X.xs ∧ Y = ZDv := by
            rcases hI.out with h | h | h
            · exact absurd h.1 (by decide)
            · exact h.2
            · exact absurd h.1 (by decide)
          obtain ⟨iX, hqc, IX, hY⟩ := hI'
          replace iX := Lib.hid iX
          subst hqc
          replace hY := Lib.hid hY
          clear hI
          go_wp2_with fail
          refine (ends_any wo2).mono ?_
          rintro e w2 ⟨rfl, hB, Xgl, Xgh⟩
          have l2 := hB.size
          have lgh : wo2.heap.size + 1 < w2.heap.size := lt_of_heap Xgh
          have hPr : ∀ j, j < wo2.heap.size → w2.heap[j]? = wo2.heap[j]? := fun j hj => hB.block j (by omega)
          have hb2 := hb.trans (hB.mono (by omega))
          have tT := hT.below hb2 hT.lt
          clear hB
          have hE0 : Ends w2 w.heap.size wo2.heap.size (wo2.heap.size + 1) (endsL ((colM 3 ms).take 0)) := by
            rw [List.take_zero, endsL_nil]
            exact ⟨Xgl, Xgh⟩
          clear Xgl Xgh
          go_wp2
          go_loopw [13, 42] (fun _ kv wr => ∃ k : Nat, kv = .int .i64 k ∧ k ≤ n ∧ Ends wr w.heap.size wo2.heap.size (wo2.heap.size + 1) (endsL ((colM 3 ms).take k)) ∧ Below wo2.heap.size w2 wr ∧ w2.heap.size ≤ wr.heap.size) (fun _ kv _ => n - (intOf kv).toNat)
          case atStart => exact ⟨0, rfl, Nat.zero_le _, hE0, Below.refl _ _, Nat.le_refl _⟩
          case round =>
            clear hE0
            obtain ⟨k, rfl, hk1, hE, hbw, lw⟩ := hrel
            have hb3 := hb2.trans (hbw.mono (by omega))
            have hLr := hL.below hb3 (Nat.le_refl _)
            have tT3 := hT.below hb3 hT.lt
            by_cases hlt : k < n
            · skip
              have hi2 : k < ms.length := by rw [HL.out]; exact hlt
              obtain ⟨b, off, hA, h1, h2, hc⟩ := hLr.row (by omega)
              have hci := hc k hi2
              have hri := hLr.rows k hi2
              obtain ⟨d, hd⟩ : ∃ d, ms[k] = d := ⟨_, rfl⟩
              rw [hd] at hci hri
              have HD := Lib.hid hd
              clear hd hc
              subst hA
              clear hLr
              obtain ⟨k0, k1, k2, k3, k4, k5, k6, k7, k8, k9, k10, k11⟩ := hci
              have hwr : IntKind.i64.wrap ((k : Int) + 1) = ((k + 1 : Nat) : Int) := by rw [IntKind.wrap_i64]; omega
              have hBL := (Below.refl wr.heap.size wr).alloc (Nat.le_refl _) (.cells #[.bool d.S.s, .slice d.S.A d.S.n d.S.c, .int .i64 d.S.e, .bool d.W.s, .slice d.W.A d.W.n d.W.c, .int .i64 d.W.e, .bool d.C.s, .slice d.C.A d.C.n d.C.c, .int .i64 d.C.e, .bool d.A.s, .slice d.A.A d.A.n d.A.c, .int .i64 d.A.e] 39)
              have hM2 : MBox (wr.alloc (.cells #[.bool d.S.s, .slice d.S.A d.S.n d.S.c, .int .i64 d.S.e, .bool d.W.s, .slice d.W.A d.W.n d.W.c, .int .i64 d.W.e, .bool d.C.s, .slice d.C.A d.C.n d.C.c, .int .i64 d.C.e, .bool d.A.s, .slice d.A.A d.A.n d.A.c, .int .i64 d.A.e] 39)) wr.heap.size d := heap_alloc_last _ _
              have l2 : wr.heap.size < (wr.alloc (.cells #[.bool d.S.s, .slice d.S.A d.S.n d.S.c, .int .i64 d.S.e, .bool d.W.s, .slice d.W.A d.W.n d.W.c, .int .i64 d.W.e, .bool d.C.s, .slice d.C.A d.C.n d.C.c, .int .i64 d.C.e, .bool d.A.s, .slice d.A.A d.A.n d.A.c, .int .i64 d.A.e] 39)).heap.size := by simp
              generalize hw2 : wr.alloc (.cells #[.bool d.S.s, .slice d.S.A d.S.n d.S.c, .int .i64 d.S.e, .bool d.W.s, .slice d.W.A d.W.n d.W.c, .int .i64 d.W.e, .bool d.C.s, .slice d.C.A d.C.n d.C.c, .int .i64 d.C.e, .bool d.A.s, .slice d.A.A d.A.n d.A.c, .int .i64 d.A.e] 39) = u1 at *
              obtain ⟨⟨y0, y1, y2, y3, y4, y5, y6, y7, y8, y9, y10, y11⟩, yf⟩ := MBox.cells hM2
              have hmd : Hid d.may := Lib.hid (by have := hmay.out k hi2; rw [HD.out] at this; exact this)
              have hEu : Ends u1 w.heap.size wo2.heap.size (wo2.heap.size + 1) (endsL ((colM 3 ms).take k)) := hE.below hBL (by omega) (by omega)
              clear hE
              go_wp2_with fail
              refine (pair_any u1 wr.heap.size).mono ?_
              rintro e u2 ⟨rfl, hB⟩
              clear k0 k1 k2 k3 k4 k5 k6 k7 k8 k9 k10 k11 y0 y1 y2 y3 y4 y5 y6 y7 y8 y9 y10 y11 yf hw2
              have l3 := hB.size
              have hM3 : MBox u2 wr.heap.size d := (hB.block _ (by omega)).trans hM2
              have hE3 := hEu.below hB (Nat.le_refl _) (by omega)
              have t3 : Tab u2 := (tT3.below hBL (by have := tT3.lt; omega)).below hB (by have := tT3.lt; omega)
              have hr3 : MRows u2 0 w.heap.size d := (hri.below hBL (by omega)).below hB (by omega)
              have hbu : Below wo2.heap.size w2 u2 := (hbw.trans (hBL.mono (by omega))).trans (hB.mono (by omega))
              clear hB hM2 hEu hri hBL
              have ix_ := idx1 (some ⟨wr.heap.size, 6, none⟩) (some ⟨wr.heap.size, 9, none⟩)
              obtain ⟨⟨y0, y1, y2, y3, y4, y5, y6, y7, y8, y9, y10, y11⟩, yf⟩ := MBox.cells hM3
              go_wp2_with fail
              clear ix_
              refine (put_any u2 w.heap.size wo2.heap.size (wo2.heap.size + 1) (by omega) (by omega) (by omega) (endsL ((colM 3 ms).take k)) hE3 d.A (dnM d 3) (IsM.of hr3 hmd.out 3 (by decide)) (dnM_may hr3 hmd.out 3 (by decide)) hr3.A t3 (by omega)).mono ?_
              rintro e u3 ⟨rfl, hB, _, hE4⟩
              clear y0 y1 y2 y3 y4 y5 y6 y7 y8 y9 y10 y11 yf hM3 hE3 hr3
              have l4 := hB.size
              have hbu4 := hbu.trans hB
              have hE5 : Ends u3 w.heap.size wo2.heap.size (wo2.heap.size + 1) (endsL ((colM 3 ms).take (k + 1))) := by
                rw [endsL_take _ _ (by simpa [colM] using hi2)]
                have e : (colM 3 ms)[k]'(by simpa [colM] using hi2) = dnM d 3 := by simp [colM, HD.out]
                rw [e]
                exact hE4
              clear hE4 hB hbu
              go_wp2
              go_roundw
              case rel => exact ⟨k + 1, by first | rfl | (congr 1; omega) | go_num, by omega, hE5, hbu4, by omega⟩
              case measure => first | (simp [intOf]; done) | (simp [intOf]; omega)
            · skip
              have hG : gapE (endsL ((colM 3 ms).take k)) = (a1, qa) := by
                rw [List.take_of_length_le (by simp [colM]; have := HL.out; omega), ← farL_gap]
                exact HA1.out
              have HG := Lib.hid hG
              clear hG hLr
              go_wp2_with fail
              refine (gap_any wr w.heap.size wo2.heap.size (wo2.heap.size + 1) (by omega) _ hE tT3 a1 qa HG.out).mono ?_
              rintro e w4 ⟨D, rfl, hB, iD, _, ID⟩
              replace iD := Lib.hid iD
              have l4 := hB.size
              have hPr4 : ∀ j, j < wo2.heap.size → w4.heap[j]? = wo2.heap[j]? := fun j hj => (hB.block j (by omega)).trans ((hbw.block j hj).trans (hPr j hj))
              have hb4 := hb3.trans (hB.mono (by omega))
              have hTB4 : TBox w4 wo.heap.size X Y := (hPr4 _ (by omega)).trans hTB
              have hRC4 : w4.heap[w.heap.size]? = some (.cells #[.bool false, .slice none 0 0, .int .i64 0] 24 (0, 0)) := (hPr4 _ (by omega)).trans hRC
              have hRA4 : w4.heap[w.heap.size + 1]? = some (.cells #[.bool false, .slice none 0 0, .int .i64 0] 24 (0, 0)) := (hPr4 _ (by omega)).trans hRA
              clear hB hE hb3 hbw hPr hTB hRC hRA tT3 hb2
              obtain ⟨⟨k0, k1, k2, k3, k4, k5⟩, kf⟩ := TBox.cells hTB4
              have hTB5 : TBox (((w4.setCell ⟨wo.heap.size, 3, none⟩ (.bool D.s)).setCell ⟨wo.heap.size, 4, none⟩ (.slice D.A D.n D.c)).setCell ⟨wo.heap.size, 5, none⟩ (.int .i64 D.e)) wo.heap.size X D := hTB4.put1 D
              have hf5 : ∀ j, j ≠ wo.heap.size → (((w4.setCell ⟨wo.heap.size, 3, none⟩ (.bool D.s)).setCell ⟨wo.heap.size, 4, none⟩ (.slice D.A D.n D.c)).setCell ⟨wo.heap.size, 5, none⟩ (.int .i64 D.e)).heap[j]? = w4.heap[j]? := fun j hj => far3 hj _ _ _
              have hb5 : Below w.heap.size w (((w4.setCell ⟨wo.heap.size, 3, none⟩ (.bool D.s)).setCell ⟨wo.heap.size, 4, none⟩ (.slice D.A D.n D.c)).setCell ⟨wo.heap.size, 5, none⟩ (.int .i64 D.e)) := below3 hb4 (by omega) _ _ _
              have hs5 : (((w4.setCell ⟨wo.heap.size, 3, none⟩ (.bool D.s)).setCell ⟨wo.heap.size, 4, none⟩ (.slice D.A D.n D.c)).setCell ⟨wo.heap.size, 5, none⟩ (.int .i64 D.e)).heap.size = w4.heap.size := size3 _ _ _
              have hQ : Hid (qa = 0) ∨ ((qa = 10 ∨ qa = 10) ∧ code = qa ∧ c = Dn.zero ∧ a = Dn.zero) := (F2.out (by first | rfl | trivial)).imp Lib.hid fun h => ⟨.inl h.1, by rw [h.1]; exact h.2.1, h.2.2⟩
              rcases hQ with hQ | ⟨hQ, hcd, hcc, hca⟩
              · skip
                have hQ0 := hQ.out
                subst hQ0
                clear hQ
                go_wp2
                clear k0 k1 k2 k3 k4 k5 kf
                generalize (((w4.setCell ⟨wo.heap.size, 3, none⟩ (.bool D.s)).setCell ⟨wo.heap.size, 4, none⟩ (.slice D.A D.n D.c)).setCell ⟨wo.heap.size, 5, none⟩ (.int .i64 D.e)) = w6 at *
                have l6 : w4.heap.size ≤ w6.heap.size := Nat.le_of_eq hs5.symm
                have l6' : w6.heap.size ≤ w4.heap.size := Nat.le_of_eq hs5
                clear hs5
                have hRC6 := (hf5 w.heap.size (by omega)).trans hRC4
                have hRA6 := (hf5 (w.heap.size + 1) (by omega)).trans hRA4
                clear hRC4 hRA4 hTB4
                have IX4 : Ints w4 (wo.heap.size + 1) wo2.heap.size .u32 X.A X.n X.xs := ints_rng IX (w' := w4) (fun b h1 h2 => hPr4 b (by omega))
                have IX6 : Ints w6 (wo.heap.size + 1) wo2.heap.size .u32 X.A X.n X.xs := ints_rng IX4 (w' := w6) (fun b h1 h2 => hf5 b (by omega))
                have ID6 : Ints w6 wo2.heap.size w6.heap.size .u32 D.A D.n D.xs := (ints_rng ID (w' := w6) (fun b h1 h2 => hf5 b (by omega))).more (by omega) (by omega)
                go_roundw
                case rel => exact ⟨2, X, D, by first | rfl | (congr 1; omega) | go_num, rfl, by decide, hTB5, hRC6, hRA6, hb5, by omega, Lib.hid (.inr (.inr ⟨rfl, iX.out, rfl, iD.out, rfl, wo2.heap.size, by omega, by omega, IX6, ID6⟩))⟩
                case measure => first | (simp [intOf]; done) | (simp [intOf]; omega)
              · skip
                subst hcc hca
                rcases hQ with hQ | hQ
                · skip
                  subst hQ
                  subst hcd
                  have hRC6 : (((w4.setCell ⟨wo.heap.size, 3, none⟩ (.bool D.s)).setCell ⟨wo.heap.size, 4, none⟩ (.slice D.A D.n D.c)).setCell ⟨wo.heap.size, 5, none⟩ (.int .i64 D.e)).heap[w.heap.size]? = some (.cells #[.bool false, .slice none 0 0, .int .i64 0] 24 (0, 0)) := (hf5 w.heap.size (by omega)).trans hRC4
                  have hRA6 : (((w4.setCell ⟨wo.heap.size, 3, none⟩ (.bool D.s)).setCell ⟨wo.heap.size, 4, none⟩ (.slice D.A D.n D.c)).setCell ⟨wo.heap.size, 5, none⟩ (.int .i64 D.e)).heap[w.heap.size + 1]? = some (.cells #[.bool false, .slice none 0 0, .int .i64 0] 24 (0, 0)) := (hf5 (w.heap.size + 1) (by omega)).trans hRA4
                  obtain ⟨⟨z0, z1, z2⟩, z3, z4, z5⟩ := boxD hRC6
                  obtain ⟨⟨y0, y1, y2⟩, y3, y4, y5⟩ := boxD hRA6
                  go_wp2
                  clear k0 k1 k2 k3 k4 k5 kf
                  generalize (((w4.setCell ⟨wo.heap.size, 3, none⟩ (.bool D.s)).setCell ⟨wo.heap.size, 4, none⟩ (.slice D.A D.n D.c)).setCell ⟨wo.heap.size, 5, none⟩ (.int .i64 D.e)) = w6 at *
                  obtain ⟨U1, hu1, hX1, hb1, hf1, hs1, hs1'⟩ := zput hRC6 (.bool false) (.slice none 0 0) (.int .i64 0)
                  rw [hu1]
                  obtain ⟨U2, hu2, hX2, hb2, hf2, hs2, hs2'⟩ := zput (show U1.heap[w.heap.size + 1]? = some (.cells #[.bool false, .slice none 0 0, .int .i64 0] 24 (0, 0)) from (hf1 _ (by omega)).trans hRA6) (.bool false) (.slice none 0 0) (.int .i64 0)
                  rw [hu2]
                  replace hX1 := (hf2 w.heap.size (by omega)).trans hX1
                  have hQ := hb2 _ _ (hb1 _ _ hb5 (Nat.le_refl _)) (by omega)
                  clear hu1 hu2 z0 z1 z2 z3 z4 z5 y0 y1 y2 y3 y4 y5
                  obtain ⟨⟨z0, z1, z2⟩, _⟩ := boxD hX1
                  obtain ⟨⟨y0, y1, y2⟩, _⟩ := boxD hX2
                  exact bodyPost_ret (v := .tuple #[.agg #[.bool false, .slice none 0 0, .int .i64 0], .agg #[.bool false, .slice none 0 0, .int .i64 0], .int .i64 10]) (by simp [results, Tryd.results40, go_sem, z0, z1, z2, y0, y1, y2]) rfl ⟨ZDv, ZDv, rfl, hQ, Is.zero, Is.zero, w.heap.size, Nat.le_refl _, by omega, Ints.nil_ .., Ints.nil_ ..⟩
                · skip
                  subst hQ
                  subst hcd
                  have hRC6 : (((w4.setCell ⟨wo.heap.size, 3, none⟩ (.bool D.s)).setCell ⟨wo.heap.size, 4, none⟩ (.slice D.A D.n D.c)).setCell ⟨wo.heap.size, 5, none⟩ (.int .i64 D.e)).heap[w.heap.size]? = some (.cells #[.bool false, .slice none 0 0, .int .i64 0] 24 (0, 0)) := (hf5 w.heap.size (by omega)).trans hRC4
                  have hRA6 : (((w4.setCell ⟨wo.heap.size, 3, none⟩ (.bool D.s)).setCell ⟨wo.heap.size, 4, none⟩ (.slice D.A D.n D.c)).setCell ⟨wo.heap.size, 5, none⟩ (.int .i64 D.e)).heap[w.heap.size + 1]? = some (.cells #[.bool false, .slice none 0 0, .int .i64 0] 24 (0, 0)) := (hf5 (w.heap.size + 1) (by omega)).trans hRA4
                  obtain ⟨⟨z0, z1, z2⟩, z3, z4, z5⟩ := boxD hRC6
                  obtain ⟨⟨y0, y1, y2⟩, y3, y4, y5⟩ := boxD hRA6
                  go_wp2
                  clear k0 k1 k2 k3 k4 k5 kf
                  generalize (((w4.setCell ⟨wo.heap.size, 3, none⟩ (.bool D.s)).setCell ⟨wo.heap.size, 4, none⟩ (.slice D.A D.n D.c)).setCell ⟨wo.heap.size, 5, none⟩ (.int .i64 D.e)) = w6 at *
                  obtain ⟨U1, hu1, hX1, hb1, hf1, hs1, hs1'⟩ := zput hRC6 (.bool false) (.slice none 0 0) (.int .i64 0)
                  rw [hu1]
                  obtain ⟨U2, hu2, hX2, hb2, hf2, hs2, hs2'⟩ := zput (show U1.heap[w.heap.size + 1]? = some (.cells #[.bool false, .slice none 0 0, .int .i64 0] 24 (0, 0)) from (hf1 _ (by omega)).trans hRA6) (.bool false) (.slice none 0 0) (.int .i64 0)
                  rw [hu2]
                  replace hX1 := (hf2 w.heap.size (by omega)).trans hX1
                  have hQ := hb2 _ _ (hb1 _ _ hb5 (Nat.le_refl _)) (by omega)
                  clear hu1 hu2 z0 z1 z2 z3 z4 z5 y0 y1 y2 y3 y4 y5
                  obtain ⟨⟨z0, z1, z2⟩, _⟩ := boxD hX1
                  obtain ⟨⟨y0, y1, y2⟩, _⟩ := boxD hX2
                  exact bodyPost_ret (v := .tuple #[.agg #[.bool false, .slice none 0 0, .int .i64 0], .agg #[.bool false, .slice none 0 0, .int .i64 0], .int .i64 10]) (by simp [results, Tryd.results40, go_sem, z0, z1, z2, y0, y1, y2]) rfl ⟨ZDv, ZDv, rfl, hQ, Is.zero, Is.zero, w.heap.size, Nat.le_refl _, by omega, Ints.nil_ .., Ints.nil_ ..⟩
        · skip
          have hI' : Is c1 X ∧ qc = 0 ∧ Is a1 Y ∧ qa = 0 ∧ ∃ B1, wo.heap.size + 1 ≤ B1 ∧ B1 ≤ wo2.heap.size ∧ Ints wo2 (wo.heap.size + 1) B1 .u32 X.A X.n X.xs ∧ Ints wo2 B1 wo2.heap.size .u32 Y.A Y.n Y.xs := by
            rcases hI.out with h | h | h
            · exact absurd h.1 (by decide)
            · exact absurd h.1 (by decide)
            · exact h.2
          obtain ⟨iX, hqc, iY, hqa, B1, lB1, lB2, IX, IY⟩ := hI'
          obtain ⟨hcc, hca, hcd⟩ := F3.out hqc hqa
          subst hcc hca hcd
          replace iX := Lib.hid iX
          replace iY := Lib.hid iY
          clear hI hqc hqa
          obtain ⟨⟨z0, z1, z2⟩, z3, z4, z5⟩ := boxD hRC
          obtain ⟨⟨y0, y1, y2⟩, y3, y4, y5⟩ := boxD hRA
          clear z0 z1 z2 z3 z4 z5 y0 y1 y2 y3 y4 y5
          go_wp2_with fail
          refine region_E (fun W' : World => TBox W' wo.heap.size X Y) [] (m := 7) (L := #[false, false, false, false, false, false, false]) (by kernel_rfl) (by rfl) (by rfl) ?_
          have hT3 : TBox wo2.drew wo.heap.size X Y := hTB
          have hRC3 : wo2.drew.heap[w.heap.size]? = some (.cells #[.bool false, .slice none 0 0, .int .i64 0] 24 (0, 0)) := hRC
          have hRA3 : wo2.drew.heap[w.heap.size + 1]? = some (.cells #[.bool false, .slice none 0 0, .int .i64 0] 24 (0, 0)) := hRA
          have hb3 : Below w.heap.size w wo2.drew := hb.drew
          replace IX : Ints wo2.drew (wo.heap.size + 1) B1 .u32 X.A X.n X.xs := Ints.drewN IX 1
          replace IY : Ints wo2.drew B1 wo2.drew.heap.size .u32 Y.A Y.n Y.xs := Ints.drewN IY 1
          have l3 : wo2.heap.size ≤ wo2.drew.heap.size := Nat.le_refl _
          clear hTB hRC hRA hb
          generalize wo2.drew = w3 at *
          refine pureE (i := 0) (L := #[true, false, false, false, false, false, false]) (v := ?_) rfl (by rfl) (by kernel_rfl) (by kernel_rfl) (by kernel_rfl) (fun _ _ _ h => h) (by rfl) ?hy1 ?rest1
          case hy1 => intro w; go_simp; (try with_reducible rfl)
          try simp only [Act.put, List.setIfInBounds_toArray, List.set_cons_zero, List.set_cons_succ]
          refine readE (i := 1) (L := #[true, true, false, false, false, false, false]) (v := .agg #[.bool X.s, .slice X.A X.n X.c, .int .i64 X.e]) rfl (by rfl) (by kernel_rfl) (by kernel_rfl) (by kernel_rfl) (fun _ _ _ h => h) (by assumption) (by rfl) ?ya ?za
          case ya =>
            intro w' h1
            obtain ⟨⟨k0, k1, k2, k3, k4, k5⟩, kf⟩ := TBox.cells h1
            go_simp
          try simp only [Act.put, List.setIfInBounds_toArray, List.set_cons_zero, List.set_cons_succ]
          refine pureE (i := 2) (L := #[true, true, true, false, false, false, false]) (v := ?_) rfl (by rfl) (by kernel_rfl) (by kernel_rfl) (by kernel_rfl) (fun _ _ _ h => h) (by rfl) ?hy3 ?rest3
          case hy3 => intro w; go_simp; (try with_reducible rfl)
          try simp only [Act.put, List.setIfInBounds_toArray, List.set_cons_zero, List.set_cons_succ]
          refine readE (i := 3) (L := #[true, true, true, true, false, false, false]) (v := .agg #[.bool Y.s, .slice Y.A Y.n Y.c, .int .i64 Y.e]) rfl (by rfl) (by kernel_rfl) (by kernel_rfl) (by kernel_rfl) (fun _ _ _ h => h) (by assumption) (by rfl) ?yb ?zb
          case yb =>
            intro w' h1
            obtain ⟨⟨k0, k1, k2, k3, k4, k5⟩, kf⟩ := TBox.cells h1
            go_simp
          try simp only [Act.put, List.setIfInBounds_toArray, List.set_cons_zero, List.set_cons_succ]
          have hl3 : wo.heap.size < w3.heap.size := lt_of_heap hT3
          obtain ⟨U1, hu1, hX1, hb1, hf1, hs1, hs1'⟩ := zput hRC3 (.bool X.s) (.slice X.A X.n X.c) (.int .i64 X.e)
          obtain ⟨⟨z0, z1, z2⟩, z3, z4, z5⟩ := boxD hRC3
          refine stepK (i := 4) (L := #[true, true, true, true, true, false, false]) rfl (by rfl) (by kernel_rfl) (by rfl) (fun K hK => ?_)
          go_simp
          try rw [hu1]
          refine hK _ _ ⟨fun _ h => (hf1 _ (by omega)).trans h, ?_⟩
          clear hK K z0 z1 z2 z3 z4 z5 hu1
          try simp only [Act.put, List.setIfInBounds_toArray, List.set_cons_zero, List.set_cons_succ]
          have hRA4 := (hf1 (w.heap.size + 1) (by omega)).trans hRA3
          obtain ⟨U2, hu2, hX2, hb2, hf2, hs2, hs2'⟩ := zput hRA4 (.bool Y.s) (.slice Y.A Y.n Y.c) (.int .i64 Y.e)
          obtain ⟨⟨z0, z1, z2⟩, z3, z4, z5⟩ := boxD hRA4
          refine stepK (i := 5) (L := #[true, true, true, true, true, true, false]) rfl (by rfl) (by kernel_rfl) (by rfl) (fun K hK => ?_)
          go_simp
          try rw [hu2]
          refine hK _ _ ⟨fun _ h => (hf2 _ (by omega)).trans h, ?_⟩
          clear hK K z0 z1 z2 z3 z4 z5 hu2
          try simp only [Act.put, List.setIfInBounds_toArray, List.set_cons_zero, List.set_cons_succ]
          refine pureE (i := 6) (L := #[true, true, true, true, true, true, true]) (v := ?_) rfl (by rfl) (by kernel_rfl) (by kernel_rfl) (by kernel_rfl) (fun _ _ _ h => h) (by rfl) ?hy7 ?rest7
          case hy7 => intro w; go_simp; (try with_reducible rfl)
          try simp only [Act.put, List.setIfInBounds_toArray, List.set_cons_zero, List.set_cons_succ]
          refine doneE (by kernel_rfl) ?_ _
          go_wp2
          replace hX1 := (hf2 w.heap.size (by omega)).trans hX1
          have hQ := hb2 _ _ (hb1 _ _ hb3 (Nat.le_refl _)) (by omega)
          obtain ⟨⟨z0, z1, z2⟩, _⟩ := boxD hX1
          obtain ⟨⟨y0, y1, y2⟩, _⟩ := boxD hX2
          exact bodyPost_ret (v := .tuple #[.agg #[.bool X.s, .slice X.A X.n X.c, .int .i64 X.e], .agg #[.bool Y.s, .slice Y.A Y.n Y.c, .int .i64 Y.e], .int .i64 0]) (by simp [results, Tryd.results40, go_sem, z0, z1, z2, y0, y1, y2]) rfl ⟨X, Y, rfl, hQ, iX.out, iY.out, B1, by omega, by omega, (ints_rng IX (w' := U2) (fun b h1 h2 => (hf2 b (by omega)).trans (hf1 b (by omega)))).more (by omega) (Nat.le_refl _), (ints_rng IY (w' := U2) (fun b h1 h2 => (hf2 b (by omega)).trans (hf1 b (by omega)))).more (Nat.le_refl _) (by omega)⟩
end Ma
end Go.Proofs.YtlbkepiflhchdaaDoor
