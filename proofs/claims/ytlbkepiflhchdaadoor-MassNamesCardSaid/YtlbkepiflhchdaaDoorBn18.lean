/- The law DyadSums: a walk (printed by a program of mine). -/
import Derived.Test.YtlbkepiflhchdaaDoorBn16
import Derived.Test.YtlbkepiflhchdaaDoorBn17
namespace Go.Proofs.YtlbkepiflhchdaaDoor
open Go.RowKit
namespace Dy
open Dp
/-- Cells that may be written. -/
def WrD (w : World) (b off n : Nat) : Prop := ∀ j, j < n → (∃ u, w.cell? ⟨b, off + j, none⟩ = some u) ∧ w.frozen? ⟨b, off + j, none⟩ = false
theorem WrD.set_ {w : World} {b off n : Nat} (h : WrD w b off n) (p : Addr) (v : Value) : WrD (w.setCell p v) b off n := fun j hj => by
  obtain ⟨⟨u, h1⟩, h2⟩ := h j hj
  refine ⟨?_, by rw [World.frozen?_setCell]; exact h2⟩
  by_cases e : p = ⟨b, off + j, none⟩
  · subst e
    exact ⟨v, World.cell?_setCell_same' _ _ _ (by rw [h1]; rfl)⟩
  · exact ⟨u, (World.cell?_setCell_other _ _ _ _ e).trans h1⟩
/-- What lies from hi on stays, too. -/
def From (hi : Nat) (w w' : World) : Prop := ∀ k, hi ≤ k → k < w.heap.size → w'.heap[k]? = w.heap[k]?
theorem From.setCell {hi : Nat} {w0 w : World} (h : From hi w0 w) {p : Addr} (hp : p.block < hi) (v : Value) : From hi w0 (w.setCell p v) := fun k h1 h2 => by
  rw [← h k h1 h2]
  exact Below.heap_setCell _ _ _ _ (by omega)
set_option maxHeartbeats 800000 in
set_option maxRecDepth 100000 in
/-- headcountlaw02.spoil: just the row's own range is written. -/
theorem spoilD_any (w : World) (s : Bool) (A : Option Addr) (n c : Nat) (xs : List Int) (ex : Int) (lo hi : Nat) (h : Ints w lo hi .u32 A n xs) (hn : n ≤ 1000000) (hhi : hi ≤ w.heap.size) (hlo : lo ≤ w.heap.size) :
    Calls Tryd.prog 27 #[.agg #[.bool s, .slice A n c, .int .i64 ex]] w fun e w' => e = .returned (.tuple #[]) ∧ Below lo w w' ∧ From hi w w' := by
  generalize hw : w.alloc (.cells #[.bool s, .slice A n c, .int .i64 ex] 24) = w1 at *
  have X1 : w1.heap[w.heap.size]? = some (.cells #[.bool s, .slice A n c, .int .i64 ex] 24 (0, 0)) := by rw [← hw]; exact heap_alloc_last _ _
  have b1 : Below lo w w1 := by rw [← hw]; exact (Below.refl _ w).alloc hlo _
  have f1 : From hi w w1 := by rw [← hw]; exact fun k _ h2 => Below.heap_alloc _ _ _ h2
  have hc : 0 < n → ∃ b off, A = some ⟨b, off, none⟩ ∧ lo ≤ b ∧ b < hi ∧ WrD w1 b off n := fun h0 => by
    obtain ⟨b, off, e, h1, h2, hc⟩ := h.row h0
    refine ⟨b, off, e, h1, h2, fun j hj => ?_⟩
    have h3 : w1.heap[b]? = w.heap[b]? := by rw [← hw]; exact Below.heap_alloc _ _ _ (by omega)
    obtain ⟨h4, h5⟩ := hc j hj
    exact ⟨⟨_, by rw [World.cell?_of_block h3]; exact h4⟩, by rw [World.frozen?_of_block h3]; exact h5⟩
  clear h
  go_enter Tryd.func27, Tryd.ntmps27
  go_wp2
  try clear hw
  go_loopw [2] (fun iv wr => ∃ i : Nat, iv = .int .i64 i ∧ i ≤ n ∧ wr.heap[w.heap.size]? = some (.cells #[.bool s, .slice A n c, .int .i64 ex] 24 (0, 0)) ∧ Below lo w wr ∧ From hi w wr ∧ (0 < n → ∃ b off, A = some ⟨b, off, none⟩ ∧ lo ≤ b ∧ b < hi ∧ WrD wr b off n)) (fun iv _ => n - (intOf iv).toNat)
  case atStart => exact ⟨0, rfl, Nat.zero_le _, X1, b1, f1, hc⟩
  case round =>
    clear X1 b1 f1 hc
    obtain ⟨i, rfl, hi1, X1, b1, f1, hc⟩ := hrel
    obtain ⟨⟨y1, y2, y3⟩, y4, y5, y6⟩ := boxD X1
    by_cases hlt : i < n
    · obtain ⟨b, off, rfl, hb1, hb2, hW⟩ := hc (by omega)
      clear hc
      obtain ⟨⟨u, q1⟩, q2⟩ := hW i hlt
      have hwr : IntKind.i64.wrap ((i : Int) + 1) = ((i + 1 : Nat) : Int) := by rw [IntKind.wrap_i64]; omega
      go_wp2
      go_roundw
      case rel => exact ⟨i + 1, by first | rfl | (congr 1; omega) | go_num, by omega, (Below.heap_setCell _ _ _ _ (by simp; omega)).trans X1, b1.setCell hb1 _, f1.setCell hb2 _, fun _ => ⟨b, off, rfl, hb1, hb2, hW.set_ _ _⟩⟩
      case measure => first | (simp [intOf]; done) | (simp [intOf]; omega)
    · obtain rfl : i = n := by omega
      clear hc
      go_wp2
      go_end0
      exact ⟨rfl, b1, f1⟩
theorem ints_spoilt {w w' : World} {lo hi l h n : Nat} {k : IntKind} {A : Option Addr} {xs : List Int} (hI : Ints w l h k A n xs) (hb : Below lo w w') (hf : From hi w w') (hs : h ≤ w.heap.size) (hd : h ≤ lo ∨ hi ≤ l) : Ints w' l h k A n xs :=
  ⟨hI.len, hI.wf, hI.big, fun h0 => by
    obtain ⟨b, off, e, h1, h2, hc⟩ := hI.row h0
    have h3 : w'.heap[b]? = w.heap[b]? := by
      rcases hd with hd | hd
      · exact hb.block b (by omega)
      · exact hf b (by omega) (by omega)
    exact ⟨b, off, e, h1, h2, fun j hj => ⟨by rw [World.cell?_of_block h3]; exact (hc j hj).1, by rw [World.frozen?_of_block h3]; exact (hc j hj).2⟩⟩⟩
theorem box_spoilt {w w' : World} {lo hi g : Nat} {o : Obj} (h : w.heap[g]? = some o) (hb : Below lo w w') (hf : From hi w w') (hd : g < lo ∨ hi ≤ g) : w'.heap[g]? = some o := by
  rcases hd with hd | hd
  · exact (hb.block g hd).trans h
  · exact (hf g hd (Array.getElem?_eq_some_iff.1 h).1).trans h
theorem great_len {s : Bool} {xs : List Int} {e : Int} {n : Nat} {gr : Bool} (hl : xs.length = n) (h : Pa.Dy.great ⟨s, xs, e⟩ = gr) : gr = false → n ≤ 42 := by
  rintro rfl
  simp [Pa.Dy.great] at h
  omega
theorem box_far {w : World} {g g' : Nat} (h : g ≠ g') (x y z : Value) : (((w.setCell ⟨g, 0, none⟩ x).setCell ⟨g, 1, none⟩ y).setCell ⟨g, 2, none⟩ z).heap[g']? = w.heap[g']? := by
  simp [World.setCell, Array.getElem?_modify, h]
theorem same_can (r : Dn) : Pa.Dy.same ⟨r.neg, canon 4294967296 r.m, r.e⟩ ⟨r.neg, canon 4294967296 r.m, r.e⟩ = true := Pa.Dy.same_refl _
theorem canon_big {w : World} {lo hi : Nat} {A : Option Addr} {n : Nat} {a : Dn} (h : Ints w lo hi .u32 A n (canon 4294967296 a.m)) (ha : a.May) : n ≤ 1000000 := Nat.le_trans (ints_may h ha) (by decide)
set_option maxHeartbeats 12800000 in
set_option maxRecDepth 100000 in
theorem sums_walk (w : World) (s1 : Bool) (A1 : Option Addr) (n1 c1 : Nat) (xs1 : List Int) (e1 : Int) (h1 : Ints w 0 w.heap.size .u32 A1 n1 xs1) (s2 : Bool) (A2 : Option Addr) (n2 c2 : Nat) (xs2 : List Int) (e2 : Int) (h2 : Ints w 0 w.heap.size .u32 A2 n2 xs2) (hT : Tab w) :
    Calls Tryd.prog 3 #[.agg #[.bool s1, .slice A1 n1 c1, .int .i64 e1], .agg #[.bool s2, .slice A2 n2 c2, .int .i64 e2]] w (Yes w) := by
  have L1 := Lib.hid h1.len
  have L2 := Lib.hid h2.len
  obtain ⟨rx, kx, hx⟩ : ∃ r k, addX s1 xs1 e1 s2 xs2 e2 = (r, k) := ⟨_, _, rfl⟩
  obtain ⟨rp, kp, hp⟩ : ∃ r k, subX s1 xs1 e1 s2 xs2 e2 = (r, k) := ⟨_, _, rfl⟩
  obtain ⟨rs, ks, hs⟩ : ∃ r k, halfX s1 xs1 e1 = (r, k) := ⟨_, _, rfl⟩
  have mx : rx.May := by have := addX_may s1 xs1 e1 s2 xs2 e2; rw [hx] at this; exact this
  have mp : rp.May := by have := subX_may s1 xs1 e1 s2 xs2 e2; rw [hp] at this; exact this
  have ms : rs.May := by have := halfX_may s1 xs1 e1; rw [hs] at this; exact this
  have MX := Lib.hid mx
  have MP := Lib.hid mp
  have MS := Lib.hid ms
  have HX := Lib.hid hx
  have HP := Lib.hid hp
  have HS := Lib.hid hs
  clear hx hp hs mx mp ms
  generalize hw : (w.alloc (.cells #[.bool s1, .slice A1 n1 c1, .int .i64 e1] 24)).alloc (.cells #[.bool s2, .slice A2 n2 c2, .int .i64 e2] 24) = w1 at *
  obtain ⟨D1, D2, b1, l1, l2⟩ := boxes2 w _ _ hw
  replace h1 := h1.below b1 (Nat.le_refl _)
  replace h2 := h2.below b1 (Nat.le_refl _)
  have tT := hT.below b1 hT.lt
  go_enter Tryd.func3, Tryd.ntmps3
  obtain ⟨⟨pD1, qD1, rD1⟩, uD1, vD1, xD1⟩ := boxD D1
  go_wp2_with fail
  obtain ⟨gr1, hgr1⟩ : ∃ gr, Pa.Dy.great ⟨s1, xs1, e1⟩ = gr := ⟨_, rfl⟩
  try clear hw
  refine (Pa.rGreat_any w1 s1 A1 n1 c1 xs1 e1 L1.out gr1 hgr1).mono ?_
  rintro e' w2 ⟨rfl, hB⟩
  clear pD1 qD1 rD1 uD1 vD1 xD1
  have lw2 : w1.heap.size ≤ w2.heap.size := hB.size
  replace h1 := h1.below hB (by omega)
  replace h2 := h2.below hB (by omega)
  replace D1 := (hB.block _ (by omega)).trans D1
  replace D2 := (hB.block _ (by omega)).trans D2
  have c3 := b1.trans (hB.mono (by omega))
  replace tT := tT.below hB tT.lt
  clear hB
  have q1 := great_len L1.out hgr1
  clear hgr1
  cases gr1
  rotate_left
  · go_wp2
    go_ret
    exact ⟨rfl, c3⟩
  obtain ⟨⟨pD2, qD2, rD2⟩, uD2, vD2, xD2⟩ := boxD D2
  go_wp2_with fail
  obtain ⟨gr2, hgr2⟩ : ∃ gr, Pa.Dy.great ⟨s2, xs2, e2⟩ = gr := ⟨_, rfl⟩
  refine (Pa.rGreat_any w2 s2 A2 n2 c2 xs2 e2 L2.out gr2 hgr2).mono ?_
  rintro e' w4 ⟨rfl, hB⟩
  clear pD2 qD2 rD2 uD2 vD2 xD2
  have lw4 : w2.heap.size ≤ w4.heap.size := hB.size
  replace h1 := h1.below hB (by omega)
  replace h2 := h2.below hB (by omega)
  replace D1 := (hB.block _ (by omega)).trans D1
  replace D2 := (hB.block _ (by omega)).trans D2
  have c5 := c3.trans (hB.mono (by omega))
  replace tT := tT.below hB tT.lt
  clear hB
  have q2 := great_len L2.out hgr2
  clear hgr2
  cases gr2
  rotate_left
  · go_wp2
    go_ret
    exact ⟨rfl, c5⟩
  replace q1 : n1 ≤ 42 := by simpa using q1
  replace q2 : n2 ≤ 42 := by simpa using q2
  go_upto_region 3 with fail
  go_cut [5, 6] from 26 to 31 (fun s5 s6 wx => ∃ g5 g6 T5 m5 T6 m6, s5 = .pointer (some ⟨g5, 0, none⟩) ∧ s6 = .pointer (some ⟨g6, 0, none⟩) ∧ w4.heap.size ≤ g5 ∧ w4.heap.size ≤ g6 ∧ wx.heap[g5]? = some (.cells #[.bool s1, .slice T5 n1 m5, .int .i64 e1] 24 (0, 0)) ∧ wx.heap[g6]? = some (.cells #[.bool s2, .slice T6 n2 m6, .int .i64 e2] 24 (0, 0)) ∧ Below w4.heap.size w4 wx ∧ Ints wx w4.heap.size wx.heap.size .u32 T5 n1 xs1 ∧ Ints wx w4.heap.size wx.heap.size .u32 T6 n2 xs2)
  case first =>
    have kD : Keeps w4 w4.drew := fun _ _ => rfl
    have hB : Below w4.heap.size w4 w4.drew := (Below.refl _ _).drew
    refine region_E (Keeps w4) [] (m := 8) (L := #[false, false, false, false, false, false, false, false]) (by kernel_rfl) (by rfl) (by rfl) ?_
    generalize w4.drew = w6 at *
    have lw6 : w4.heap.size ≤ w6.heap.size := hB.size
    have sv_D1 := D1
    have sv_D2 := D2
    replace h1 := h1.below hB (by omega)
    replace h2 := h2.below hB (by omega)
    replace D1 := (hB.block _ (by omega)).trans D1
    replace D2 := (hB.block _ (by omega)).trans D2
    replace tT := tT.below hB tT.lt
    have hB0 := hB
    clear hB
    refine readE (i := 0) (L := #[true, false, false, false, false, false, false, false]) (v := .agg #[.bool s1, .slice A1 n1 c1, .int .i64 e1]) rfl (by rfl) (by kernel_rfl) (by kernel_rfl) (by kernel_rfl) (fun _ _ _ h => h) (by assumption) (by rfl) ?hy0_1 ?rest0_1
    case hy0_1 =>
      intro w' h1
      obtain ⟨⟨k1, k2, k3⟩, _⟩ := boxD ((h1 _ (by omega)).trans sv_D1)
      go_simp
    try simp only [Act.put, List.setIfInBounds_toArray, List.set_cons_zero, List.set_cons_succ]
    refine readE (i := 2) (L := #[true, false, true, false, false, false, false, false]) (v := .agg #[.bool s2, .slice A2 n2 c2, .int .i64 e2]) rfl (by rfl) (by kernel_rfl) (by kernel_rfl) (by kernel_rfl) (fun _ _ _ h => h) (by assumption) (by rfl) ?hy2_2 ?rest2_2
    case hy2_2 =>
      intro w' h1
      obtain ⟨⟨k1, k2, k3⟩, _⟩ := boxD ((h1 _ (by omega)).trans sv_D2)
      go_simp
    try simp only [Act.put, List.setIfInBounds_toArray, List.set_cons_zero, List.set_cons_succ]
    refine stepK3 (i := 1) (j := 4) (k := 5) (Li := #[true, true, true, false, false, false, false, false]) (Lj := #[true, false, true, false, true, false, false, false]) (Lk := #[true, false, true, false, false, true, false, false]) rfl rfl rfl (by rfl) (by rfl) (by rfl) (by kernel_rfl) (by rfl) (by rfl) (by rfl) (fun K hK => ?o1_3) (fun K hK => ?o4_3) (fun K hK => ?o5_3)
    case o1_3 =>
      
      go_simp
      go_at_call 19
      refine (Pa.rTwin_any w6 s1 A1 n1 c1 xs1 e1 (h1.more (Nat.zero_le _) (by omega)) (by omega)).mono ?_
      rintro e' w7 ⟨T1, m1, rfl, lm1, hB, lt1, IT1⟩
      have lw7 : w6.heap.size ≤ w7.heap.size := hB.size
      replace h1 := h1.below hB (by omega)
      replace h2 := h2.below hB (by omega)
      replace D1 := (hB.block _ (by omega)).trans D1
      replace D2 := (hB.block _ (by omega)).trans D2
      have c8 := hB0.trans (hB.mono (by omega))
      replace tT := tT.below hB tT.lt
      clear hB
      refine hK _ _ ⟨fun _ _ p hp => c8.block p hp, ?_⟩
      clear hK K
      try simp only [Act.put, List.setIfInBounds_toArray, List.set_cons_zero, List.set_cons_succ]
      refine stepK3 (i := 3) (j := 4) (k := 5) (Li := #[true, true, true, true, false, false, false, false]) (Lj := #[true, true, true, false, true, false, false, false]) (Lk := #[true, true, true, false, false, true, false, false]) rfl rfl rfl (by rfl) (by rfl) (by rfl) (by kernel_rfl) (by rfl) (by rfl) (by rfl) (fun K hK => ?o3_4) (fun K hK => ?o4_4) (fun K hK => ?o5_4)
      case o3_4 =>
        
        go_simp
        go_at_call 19
        refine (Pa.rTwin_any w7 s2 A2 n2 c2 xs2 e2 (h2.more (Nat.zero_le _) (by omega)) (by omega)).mono ?_
        rintro e' w9 ⟨T2, m2, rfl, lm2, hB, lt2, IT2⟩
        have lw9 : w7.heap.size ≤ w9.heap.size := hB.size
        replace h1 := h1.below hB (by omega)
        replace h2 := h2.below hB (by omega)
        replace IT1 := IT1.below hB (by omega)
        replace D1 := (hB.block _ (by omega)).trans D1
        replace D2 := (hB.block _ (by omega)).trans D2
        have c10 := c8.trans (hB.mono (by omega))
        replace tT := tT.below hB tT.lt
        clear hB
        refine hK _ _ ⟨fun _ _ p hp => c10.block p hp, ?_⟩
        clear hK K
        try simp only [Act.put, List.setIfInBounds_toArray, List.set_cons_zero, List.set_cons_succ]
        refine stepK2 (i := 4) (j := 5) (Li := #[true, true, true, true, true, false, false, false]) (Lj := #[true, true, true, true, false, true, false, false]) rfl rfl (by rfl) (by rfl) (by kernel_rfl) (by rfl) (by rfl) (fun K hK => ?o4_5) (fun K hK => ?o5_5)
        case o4_5 =>
          
          go_simp
          have hB := (Below.refl w9.heap.size w9).alloc (Nat.le_refl _) (.cells #[.bool false, .slice none 0 0, .int .i64 0] 24)
          have B5 := heap_alloc_last w9 (.cells #[.bool false, .slice none 0 0, .int .i64 0] 24)
          have mw11 : w9.heap.size < (w9.alloc (.cells #[.bool false, .slice none 0 0, .int .i64 0] 24)).heap.size := by simp
          generalize hw : w9.alloc (.cells #[.bool false, .slice none 0 0, .int .i64 0] 24) = w11 at *
          have lw11 : w9.heap.size ≤ w11.heap.size := hB.size
          replace h1 := h1.below hB (by omega)
          replace h2 := h2.below hB (by omega)
          replace IT1 := IT1.below hB (by omega)
          replace IT2 := IT2.below hB (by omega)
          replace D1 := (hB.block _ (by omega)).trans D1
          replace D2 := (hB.block _ (by omega)).trans D2
          have c12 := c10.trans (hB.mono (by omega))
          replace tT := tT.below hB tT.lt
          clear hB
          try clear hw
          refine hK _ _ ⟨fun _ _ p hp => c12.block p hp, ?_⟩
          clear hK K
          try simp only [Act.put, List.setIfInBounds_toArray, List.set_cons_zero, List.set_cons_succ]
          refine stepK (i := 5) (L := #[true, true, true, true, true, true, false, false]) rfl (by rfl) (by kernel_rfl) (by rfl) (fun K hK => ?_)
          go_simp
          have hB := (Below.refl w11.heap.size w11).alloc (Nat.le_refl _) (.cells #[.bool false, .slice none 0 0, .int .i64 0] 24)
          have B6 := heap_alloc_last w11 (.cells #[.bool false, .slice none 0 0, .int .i64 0] 24)
          have mw13 : w11.heap.size < (w11.alloc (.cells #[.bool false, .slice none 0 0, .int .i64 0] 24)).heap.size := by simp
          generalize hw : w11.alloc (.cells #[.bool false, .slice none 0 0, .int .i64 0] 24) = w13 at *
          have lw13 : w11.heap.size ≤ w13.heap.size := hB.size
          replace h1 := h1.below hB (by omega)
          replace h2 := h2.below hB (by omega)
          replace IT1 := IT1.below hB (by omega)
          replace IT2 := IT2.below hB (by omega)
          replace D1 := (hB.block _ (by omega)).trans D1
          replace D2 := (hB.block _ (by omega)).trans D2
          replace B5 := (hB.block _ (by omega)).trans B5
          have c14 := c12.trans (hB.mono (by omega))
          replace tT := tT.below hB tT.lt
          clear hB
          try clear hw
          refine hK _ _ ⟨fun _ _ p hp => c14.block p hp, ?_⟩
          clear hK K
          try simp only [Act.put, List.setIfInBounds_toArray, List.set_cons_zero, List.set_cons_succ]
          refine stepK (i := 6) (L := #[true, true, true, true, true, true, true, false]) rfl (by rfl) (by kernel_rfl) (by rfl) (fun K hK => ?_)
          go_simp
          obtain ⟨⟨p1, p2, p3⟩, p4, p5, p6⟩ := boxD B5
          go_simp
          refine hK _ _ ⟨fun _ _ p hp => (below_put c14 (by omega) _ _ _).block p hp, ?_⟩
          clear hK K
          try simp only [Act.put, List.setIfInBounds_toArray, List.set_cons_zero, List.set_cons_succ]
          refine stepK (i := 7) (L := #[true, true, true, true, true, true, true, true]) rfl (by rfl) (by kernel_rfl) (by rfl) (fun K hK => ?_)
          go_simp
          obtain ⟨⟨p1, p2, p3⟩, p4, p5, p6⟩ := boxD B6
          go_simp
          refine hK _ _ ⟨fun _ _ p hp => (below_put (below_put c14 (by omega) _ _ _) (by omega) _ _ _).block p hp, ?_⟩
          clear hK K
          try simp only [Act.put, List.setIfInBounds_toArray, List.set_cons_zero, List.set_cons_succ]
          refine doneE (by kernel_rfl) ?_ _
          go_wp2_with fail
          go_meet
          refine ⟨w9.heap.size, w11.heap.size, T1, m1, T2, m2, rfl, rfl, by omega, by omega, ?_, ?_, ?_, ?_, ?_⟩
          · exact (box_far (by omega) _ _ _).trans (box_put B5 (.bool s1) (.slice T1 n1 m1) (.int .i64 e1))
          · exact box_put ((box_far (by omega) _ _ _).trans B6) (.bool s2) (.slice T2 n2 m2) (.int .i64 e2)
          · exact (below_put (below_put c14 (by omega) _ _ _) (by omega) _ _ _)
          · exact (ints_put (ints_put IT1 (by omega) _ _ _) (by omega) _ _ _).more (by omega) (by rw [size_put, size_put]; omega)
          · exact (ints_put (ints_put IT2 (by omega) _ _ _) (by omega) _ _ _).more (by omega) (by rw [size_put, size_put]; omega)
        case o5_5 =>
          
          go_simp
          have hB := (Below.refl w9.heap.size w9).alloc (Nat.le_refl _) (.cells #[.bool false, .slice none 0 0, .int .i64 0] 24)
          have B6 := heap_alloc_last w9 (.cells #[.bool false, .slice none 0 0, .int .i64 0] 24)
          have mw15 : w9.heap.size < (w9.alloc (.cells #[.bool false, .slice none 0 0, .int .i64 0] 24)).heap.size := by simp
          generalize hw : w9.alloc (.cells #[.bool false, .slice none 0 0, .int .i64 0] 24) = w15 at *
          have lw15 : w9.heap.size ≤ w15.heap.size := hB.size
          replace h1 := h1.below hB (by omega)
          replace h2 := h2.below hB (by omega)
          replace IT1 := IT1.below hB (by omega)
          replace IT2 := IT2.below hB (by omega)
          replace D1 := (hB.block _ (by omega)).trans D1
          replace D2 := (hB.block _ (by omega)).trans D2
          have c16 := c10.trans (hB.mono (by omega))
          replace tT := tT.below hB tT.lt
          clear hB
          try clear hw
          refine hK _ _ ⟨fun _ _ p hp => c16.block p hp, ?_⟩
          clear hK K
          try simp only [Act.put, List.setIfInBounds_toArray, List.set_cons_zero, List.set_cons_succ]
          refine stepK (i := 4) (L := #[true, true, true, true, true, true, false, false]) rfl (by rfl) (by kernel_rfl) (by rfl) (fun K hK => ?_)
          go_simp
          have hB := (Below.refl w15.heap.size w15).alloc (Nat.le_refl _) (.cells #[.bool false, .slice none 0 0, .int .i64 0] 24)
          have B5 := heap_alloc_last w15 (.cells #[.bool false, .slice none 0 0, .int .i64 0] 24)
          have mw17 : w15.heap.size < (w15.alloc (.cells #[.bool false, .slice none 0 0, .int .i64 0] 24)).heap.size := by simp
          generalize hw : w15.alloc (.cells #[.bool false, .slice none 0 0, .int .i64 0] 24) = w17 at *
          have lw17 : w15.heap.size ≤ w17.heap.size := hB.size
          replace h1 := h1.below hB (by omega)
          replace h2 := h2.below hB (by omega)
          replace IT1 := IT1.below hB (by omega)
          replace IT2 := IT2.below hB (by omega)
          replace D1 := (hB.block _ (by omega)).trans D1
          replace D2 := (hB.block _ (by omega)).trans D2
          replace B6 := (hB.block _ (by omega)).trans B6
          have c18 := c16.trans (hB.mono (by omega))
          replace tT := tT.below hB tT.lt
          clear hB
          try clear hw
          refine hK _ _ ⟨fun _ _ p hp => c18.block p hp, ?_⟩
          clear hK K
          try simp only [Act.put, List.setIfInBounds_toArray, List.set_cons_zero, List.set_cons_succ]
          refine stepK (i := 6) (L := #[true, true, true, true, true, true, true, false]) rfl (by rfl) (by kernel_rfl) (by rfl) (fun K hK => ?_)
          go_simp
          obtain ⟨⟨p1, p2, p3⟩, p4, p5, p6⟩ := boxD B5
          go_simp
          refine hK _ _ ⟨fun _ _ p hp => (below_put c18 (by omega) _ _ _).block p hp, ?_⟩
          clear hK K
          try simp only [Act.put, List.setIfInBounds_toArray, List.set_cons_zero, List.set_cons_succ]
          refine stepK (i := 7) (L := #[true, true, true, true, true, true, true, true]) rfl (by rfl) (by kernel_rfl) (by rfl) (fun K hK => ?_)
          go_simp
          obtain ⟨⟨p1, p2, p3⟩, p4, p5, p6⟩ := boxD B6
          go_simp
          refine hK _ _ ⟨fun _ _ p hp => (below_put (below_put c18 (by omega) _ _ _) (by omega) _ _ _).block p hp, ?_⟩
          clear hK K
          try simp only [Act.put, List.setIfInBounds_toArray, List.set_cons_zero, List.set_cons_succ]
          refine doneE (by kernel_rfl) ?_ _
          go_wp2_with fail
          go_meet
          refine ⟨w15.heap.size, w9.heap.size, T1, m1, T2, m2, rfl, rfl, by omega, by omega, ?_, ?_, ?_, ?_, ?_⟩
          · exact (box_far (by omega) _ _ _).trans (box_put B5 (.bool s1) (.slice T1 n1 m1) (.int .i64 e1))
          · exact box_put ((box_far (by omega) _ _ _).trans B6) (.bool s2) (.slice T2 n2 m2) (.int .i64 e2)
          · exact (below_put (below_put c18 (by omega) _ _ _) (by omega) _ _ _)
          · exact (ints_put (ints_put IT1 (by omega) _ _ _) (by omega) _ _ _).more (by omega) (by rw [size_put, size_put]; omega)
          · exact (ints_put (ints_put IT2 (by omega) _ _ _) (by omega) _ _ _).more (by omega) (by rw [size_put, size_put]; omega)
      case o4_4 =>
        
        go_simp
        have hB := (Below.refl w7.heap.size w7).alloc (Nat.le_refl _) (.cells #[.bool false, .slice none 0 0, .int .i64 0] 24)
        have B5 := heap_alloc_last w7 (.cells #[.bool false, .slice none 0 0, .int .i64 0] 24)
        have mw19 : w7.heap.size < (w7.alloc (.cells #[.bool false, .slice none 0 0, .int .i64 0] 24)).heap.size := by simp
        generalize hw : w7.alloc (.cells #[.bool false, .slice none 0 0, .int .i64 0] 24) = w19 at *
        have lw19 : w7.heap.size ≤ w19.heap.size := hB.size
        replace h1 := h1.below hB (by omega)
        replace h2 := h2.below hB (by omega)
        replace IT1 := IT1.below hB (by omega)
        replace D1 := (hB.block _ (by omega)).trans D1
        replace D2 := (hB.block _ (by omega)).trans D2
        have c20 := c8.trans (hB.mono (by omega))
        replace tT := tT.below hB tT.lt
        clear hB
        try clear hw
        refine hK _ _ ⟨fun _ _ p hp => c20.block p hp, ?_⟩
        clear hK K
        try simp only [Act.put, List.setIfInBounds_toArray, List.set_cons_zero, List.set_cons_succ]
        refine stepK2 (i := 3) (j := 5) (Li := #[true, true, true, true, true, false, false, false]) (Lj := #[true, true, true, false, true, true, false, false]) rfl rfl (by rfl) (by rfl) (by kernel_rfl) (by rfl) (by rfl) (fun K hK => ?o3_6) (fun K hK => ?o5_6)
        case o3_6 =>
          
          go_simp
          go_at_call 19
          refine (Pa.rTwin_any w19 s2 A2 n2 c2 xs2 e2 (h2.more (Nat.zero_le _) (by omega)) (by omega)).mono ?_
          rintro e' w21 ⟨T2, m2, rfl, lm2, hB, lt2, IT2⟩
          have lw21 : w19.heap.size ≤ w21.heap.size := hB.size
          replace h1 := h1.below hB (by omega)
          replace h2 := h2.below hB (by omega)
          replace IT1 := IT1.below hB (by omega)
          replace D1 := (hB.block _ (by omega)).trans D1
          replace D2 := (hB.block _ (by omega)).trans D2
          replace B5 := (hB.block _ (by omega)).trans B5
          have c22 := c20.trans (hB.mono (by omega))
          replace tT := tT.below hB tT.lt
          clear hB
          refine hK _ _ ⟨fun _ _ p hp => c22.block p hp, ?_⟩
          clear hK K
          try simp only [Act.put, List.setIfInBounds_toArray, List.set_cons_zero, List.set_cons_succ]
          refine stepK (i := 5) (L := #[true, true, true, true, true, true, false, false]) rfl (by rfl) (by kernel_rfl) (by rfl) (fun K hK => ?_)
          go_simp
          have hB := (Below.refl w21.heap.size w21).alloc (Nat.le_refl _) (.cells #[.bool false, .slice none 0 0, .int .i64 0] 24)
          have B6 := heap_alloc_last w21 (.cells #[.bool false, .slice none 0 0, .int .i64 0] 24)
          have mw23 : w21.heap.size < (w21.alloc (.cells #[.bool false, .slice none 0 0, .int .i64 0] 24)).heap.size := by simp
          generalize hw : w21.alloc (.cells #[.bool false, .slice none 0 0, .int .i64 0] 24) = w23 at *
          have lw23 : w21.heap.size ≤ w23.heap.size := hB.size
          replace h1 := h1.below hB (by omega)
          replace h2 := h2.below hB (by omega)
          replace IT1 := IT1.below hB (by omega)
          replace IT2 := IT2.below hB (by omega)
          replace D1 := (hB.block _ (by omega)).trans D1
          replace D2 := (hB.block _ (by omega)).trans D2
          replace B5 := (hB.block _ (by omega)).trans B5
          have c24 := c22.trans (hB.mono (by omega))
          replace tT := tT.below hB tT.lt
          clear hB
          try clear hw
          refine hK _ _ ⟨fun _ _ p hp => c24.block p hp, ?_⟩
          clear hK K
          try simp only [Act.put, List.setIfInBounds_toArray, List.set_cons_zero, List.set_cons_succ]
          refine stepK (i := 6) (L := #[true, true, true, true, true, true, true, false]) rfl (by rfl) (by kernel_rfl) (by rfl) (fun K hK => ?_)
          go_simp
          obtain ⟨⟨p1, p2, p3⟩, p4, p5, p6⟩ := boxD B5
          go_simp
          refine hK _ _ ⟨fun _ _ p hp => (below_put c24 (by omega) _ _ _).block p hp, ?_⟩
          clear hK K
          try simp only [Act.put, List.setIfInBounds_toArray, List.set_cons_zero, List.set_cons_succ]
          refine stepK (i := 7) (L := #[true, true, true, true, true, true, true, true]) rfl (by rfl) (by kernel_rfl) (by rfl) (fun K hK => ?_)
          go_simp
          obtain ⟨⟨p1, p2, p3⟩, p4, p5, p6⟩ := boxD B6
          go_simp
          refine hK _ _ ⟨fun _ _ p hp => (below_put (below_put c24 (by omega) _ _ _) (by omega) _ _ _).block p hp, ?_⟩
          clear hK K
          try simp only [Act.put, List.setIfInBounds_toArray, List.set_cons_zero, List.set_cons_succ]
          refine doneE (by kernel_rfl) ?_ _
          go_wp2_with fail
          go_meet
          refine ⟨w7.heap.size, w21.heap.size, T1, m1, T2, m2, rfl, rfl, by omega, by omega, ?_, ?_, ?_, ?_, ?_⟩
          · exact (box_far (by omega) _ _ _).trans (box_put B5 (.bool s1) (.slice T1 n1 m1) (.int .i64 e1))
          · exact box_put ((box_far (by omega) _ _ _).trans B6) (.bool s2) (.slice T2 n2 m2) (.int .i64 e2)
          · exact (below_put (below_put c24 (by omega) _ _ _) (by omega) _ _ _)
          · exact (ints_put (ints_put IT1 (by omega) _ _ _) (by omega) _ _ _).more (by omega) (by rw [size_put, size_put]; omega)
          · exact (ints_put (ints_put IT2 (by omega) _ _ _) (by omega) _ _ _).more (by omega) (by rw [size_put, size_put]; omega)
        case o5_6 =>
          
          go_simp
          have hB := (Below.refl w19.heap.size w19).alloc (Nat.le_refl _) (.cells #[.bool false, .slice none 0 0, .int .i64 0] 24)
          have B6 := heap_alloc_last w19 (.cells #[.bool false, .slice none 0 0, .int .i64 0] 24)
          have mw25 : w19.heap.size < (w19.alloc (.cells #[.bool false, .slice none 0 0, .int .i64 0] 24)).heap.size := by simp
          generalize hw : w19.alloc (.cells #[.bool false, .slice none 0 0, .int .i64 0] 24) = w25 at *
          have lw25 : w19.heap.size ≤ w25.heap.size := hB.size
          replace h1 := h1.below hB (by omega)
          replace h2 := h2.below hB (by omega)
          replace IT1 := IT1.below hB (by omega)
          replace D1 := (hB.block _ (by omega)).trans D1
          replace D2 := (hB.block _ (by omega)).trans D2
          replace B5 := (hB.block _ (by omega)).trans B5
          have c26 := c20.trans (hB.mono (by omega))
          replace tT := tT.below hB tT.lt
          clear hB
          try clear hw
          refine hK _ _ ⟨fun _ _ p hp => c26.block p hp, ?_⟩
          clear hK K
          try simp only [Act.put, List.setIfInBounds_toArray, List.set_cons_zero, List.set_cons_succ]
          refine stepK (i := 3) (L := #[true, true, true, true, true, true, false, false]) rfl (by rfl) (by kernel_rfl) (by rfl) (fun K hK => ?_)
          go_simp
          go_at_call 19
          refine (Pa.rTwin_any w25 s2 A2 n2 c2 xs2 e2 (h2.more (Nat.zero_le _) (by omega)) (by omega)).mono ?_
          rintro e' w27 ⟨T2, m2, rfl, lm2, hB, lt2, IT2⟩
          have lw27 : w25.heap.size ≤ w27.heap.size := hB.size
          replace h1 := h1.below hB (by omega)
          replace h2 := h2.below hB (by omega)
          replace IT1 := IT1.below hB (by omega)
          replace D1 := (hB.block _ (by omega)).trans D1
          replace D2 := (hB.block _ (by omega)).trans D2
          replace B5 := (hB.block _ (by omega)).trans B5
          replace B6 := (hB.block _ (by omega)).trans B6
          have c28 := c26.trans (hB.mono (by omega))
          replace tT := tT.below hB tT.lt
          clear hB
          refine hK _ _ ⟨fun _ _ p hp => c28.block p hp, ?_⟩
          clear hK K
          try simp only [Act.put, List.setIfInBounds_toArray, List.set_cons_zero, List.set_cons_succ]
          refine stepK (i := 6) (L := #[true, true, true, true, true, true, true, false]) rfl (by rfl) (by kernel_rfl) (by rfl) (fun K hK => ?_)
          go_simp
          obtain ⟨⟨p1, p2, p3⟩, p4, p5, p6⟩ := boxD B5
          go_simp
          refine hK _ _ ⟨fun _ _ p hp => (below_put c28 (by omega) _ _ _).block p hp, ?_⟩
          clear hK K
          try simp only [Act.put, List.setIfInBounds_toArray, List.set_cons_zero, List.set_cons_succ]
          refine stepK (i := 7) (L := #[true, true, true, true, true, true, true, true]) rfl (by rfl) (by kernel_rfl) (by rfl) (fun K hK => ?_)
          go_simp
          obtain ⟨⟨p1, p2, p3⟩, p4, p5, p6⟩ := boxD B6
          go_simp
          refine hK _ _ ⟨fun _ _ p hp => (below_put (below_put c28 (by omega) _ _ _) (by omega) _ _ _).block p hp, ?_⟩
          clear hK K
          try simp only [Act.put, List.setIfInBounds_toArray, List.set_cons_zero, List.set_cons_succ]
          refine doneE (by kernel_rfl) ?_ _
          go_wp2_with fail
          go_meet
          refine ⟨w7.heap.size, w19.heap.size, T1, m1, T2, m2, rfl, rfl, by omega, by omega, ?_, ?_, ?_, ?_, ?_⟩
          · exact (box_far (by omega) _ _ _).trans (box_put B5 (.bool s1) (.slice T1 n1 m1) (.int .i64 e1))
          · exact box_put ((box_far (by omega) _ _ _).trans B6) (.bool s2) (.slice T2 n2 m2) (.int .i64 e2)
          · exact (below_put (below_put c28 (by omega) _ _ _) (by omega) _ _ _)
          · exact (ints_put (ints_put IT1 (by omega) _ _ _) (by omega) _ _ _).more (by omega) (by rw [size_put, size_put]; omega)
          · exact (ints_put (ints_put IT2 (by omega) _ _ _) (by omega) _ _ _).more (by omega) (by rw [size_put, size_put]; omega)
      case o5_4 =>
        
        go_simp
        have hB := (Below.refl w7.heap.size w7).alloc (Nat.le_refl _) (.cells #[.bool false, .slice none 0 0, .int .i64 0] 24)
        have B6 := heap_alloc_last w7 (.cells #[.bool false, .slice none 0 0, .int .i64 0] 24)
        have mw29 : w7.heap.size < (w7.alloc (.cells #[.bool false, .slice none 0 0, .int .i64 0] 24)).heap.size := by simp
        generalize hw : w7.alloc (.cells #[.bool false, .slice none 0 0, .int .i64 0] 24) = w29 at *
        have lw29 : w7.heap.size ≤ w29.heap.size := hB.size
        replace h1 := h1.below hB (by omega)
        replace h2 := h2.below hB (by omega)
        replace IT1 := IT1.below hB (by omega)
        replace D1 := (hB.block _ (by omega)).trans D1
        replace D2 := (hB.block _ (by omega)).trans D2
        have c30 := c8.trans (hB.mono (by omega))
        replace tT := tT.below hB tT.lt
        clear hB
        try clear hw
        refine hK _ _ ⟨fun _ _ p hp => c30.block p hp, ?_⟩
        clear hK K
        try simp only [Act.put, List.setIfInBounds_toArray, List.set_cons_zero, List.set_cons_succ]
        refine stepK2 (i := 3) (j := 4) (Li := #[true, true, true, true, false, true, false, false]) (Lj := #[true, true, true, false, true, true, false, false]) rfl rfl (by rfl) (by rfl) (by kernel_rfl) (by rfl) (by rfl) (fun K hK => ?o3_7) (fun K hK => ?o4_7)
        case o3_7 =>
          
          go_simp
          go_at_call 19
          refine (Pa.rTwin_any w29 s2 A2 n2 c2 xs2 e2 (h2.more (Nat.zero_le _) (by omega)) (by omega)).mono ?_
          rintro e' w31 ⟨T2, m2, rfl, lm2, hB, lt2, IT2⟩
          have lw31 : w29.heap.size ≤ w31.heap.size := hB.size
          replace h1 := h1.below hB (by omega)
          replace h2 := h2.below hB (by omega)
          replace IT1 := IT1.below hB (by omega)
          replace D1 := (hB.block _ (by omega)).trans D1
          replace D2 := (hB.block _ (by omega)).trans D2
          replace B6 := (hB.block _ (by omega)).trans B6
          have c32 := c30.trans (hB.mono (by omega))
          replace tT := tT.below hB tT.lt
          clear hB
          refine hK _ _ ⟨fun _ _ p hp => c32.block p hp, ?_⟩
          clear hK K
          try simp only [Act.put, List.setIfInBounds_toArray, List.set_cons_zero, List.set_cons_succ]
          refine stepK (i := 4) (L := #[true, true, true, true, true, true, false, false]) rfl (by rfl) (by kernel_rfl) (by rfl) (fun K hK => ?_)
          go_simp
          have hB := (Below.refl w31.heap.size w31).alloc (Nat.le_refl _) (.cells #[.bool false, .slice none 0 0, .int .i64 0] 24)
          have B5 := heap_alloc_last w31 (.cells #[.bool false, .slice none 0 0, .int .i64 0] 24)
          have mw33 : w31.heap.size < (w31.alloc (.cells #[.bool false, .slice none 0 0, .int .i64 0] 24)).heap.size := by simp
          generalize hw : w31.alloc (.cells #[.bool false, .slice none 0 0, .int .i64 0] 24) = w33 at *
          have lw33 : w31.heap.size ≤ w33.heap.size := hB.size
          replace h1 := h1.below hB (by omega)
          replace h2 := h2.below hB (by omega)
          replace IT1 := IT1.below hB (by omega)
          replace IT2 := IT2.below hB (by omega)
          replace D1 := (hB.block _ (by omega)).trans D1
          replace D2 := (hB.block _ (by omega)).trans D2
          replace B6 := (hB.block _ (by omega)).trans B6
          have c34 := c32.trans (hB.mono (by omega))
          replace tT := tT.below hB tT.lt
          clear hB
          try clear hw
          refine hK _ _ ⟨fun _ _ p hp => c34.block p hp, ?_⟩
          clear hK K
          try simp only [Act.put, List.setIfInBounds_toArray, List.set_cons_zero, List.set_cons_succ]
          refine stepK (i := 6) (L := #[true, true, true, true, true, true, true, false]) rfl (by rfl) (by kernel_rfl) (by rfl) (fun K hK => ?_)
          go_simp
          obtain ⟨⟨p1, p2, p3⟩, p4, p5, p6⟩ := boxD B5
          go_simp
          refine hK _ _ ⟨fun _ _ p hp => (below_put c34 (by omega) _ _ _).block p hp, ?_⟩
          clear hK K
          try simp only [Act.put, List.setIfInBounds_toArray, List.set_cons_zero, List.set_cons_succ]
          refine stepK (i := 7) (L := #[true, true, true, true, true, true, true, true]) rfl (by rfl) (by kernel_rfl) (by rfl) (fun K hK => ?_)
          go_simp
          obtain ⟨⟨p1, p2, p3⟩, p4, p5, p6⟩ := boxD B6
          go_simp
          refine hK _ _ ⟨fun _ _ p hp => (below_put (below_put c34 (by omega) _ _ _) (by omega) _ _ _).block p hp, ?_⟩
          clear hK K
          try simp only [Act.put, List.setIfInBounds_toArray, List.set_cons_zero, List.set_cons_succ]
          refine doneE (by kernel_rfl) ?_ _
          go_wp2_with fail
          go_meet
          refine ⟨w31.heap.size, w7.heap.size, T1, m1, T2, m2, rfl, rfl, by omega, by omega, ?_, ?_, ?_, ?_, ?_⟩
          · exact (box_far (by omega) _ _ _).trans (box_put B5 (.bool s1) (.slice T1 n1 m1) (.int .i64 e1))
          · exact box_put ((box_far (by omega) _ _ _).trans B6) (.bool s2) (.slice T2 n2 m2) (.int .i64 e2)
          · exact (below_put (below_put c34 (by omega) _ _ _) (by omega) _ _ _)
          · exact (ints_put (ints_put IT1 (by omega) _ _ _) (by omega) _ _ _).more (by omega) (by rw [size_put, size_put]; omega)
          · exact (ints_put (ints_put IT2 (by omega) _ _ _) (by omega) _ _ _).more (by omega) (by rw [size_put, size_put]; omega)
        case o4_7 =>
          
          go_simp
          have hB := (Below.refl w29.heap.size w29).alloc (Nat.le_refl _) (.cells #[.bool false, .slice none 0 0, .int .i64 0] 24)
          have B5 := heap_alloc_last w29 (.cells #[.bool false, .slice none 0 0, .int .i64 0] 24)
          have mw35 : w29.heap.size < (w29.alloc (.cells #[.bool false, .slice none 0 0, .int .i64 0] 24)).heap.size := by simp
          generalize hw : w29.alloc (.cells #[.bool false, .slice none 0 0, .int .i64 0] 24) = w35 at *
          have lw35 : w29.heap.size ≤ w35.heap.size := hB.size
          replace h1 := h1.below hB (by omega)
          replace h2 := h2.below hB (by omega)
          replace IT1 := IT1.below hB (by omega)
          replace D1 := (hB.block _ (by omega)).trans D1
          replace D2 := (hB.block _ (by omega)).trans D2
          replace B6 := (hB.block _ (by omega)).trans B6
          have c36 := c30.trans (hB.mono (by omega))
          replace tT := tT.below hB tT.lt
          clear hB
          try clear hw
          refine hK _ _ ⟨fun _ _ p hp => c36.block p hp, ?_⟩
          clear hK K
          try simp only [Act.put, List.setIfInBounds_toArray, List.set_cons_zero, List.set_cons_succ]
          refine stepK (i := 3) (L := #[true, true, true, true, true, true, false, false]) rfl (by rfl) (by kernel_rfl) (by rfl) (fun K hK => ?_)
          go_simp
          go_at_call 19
          refine (Pa.rTwin_any w35 s2 A2 n2 c2 xs2 e2 (h2.more (Nat.zero_le _) (by omega)) (by omega)).mono ?_
          rintro e' w37 ⟨T2, m2, rfl, lm2, hB, lt2, IT2⟩
          have lw37 : w35.heap.size ≤ w37.heap.size := hB.size
          replace h1 := h1.below hB (by omega)
          replace h2 := h2.below hB (by omega)
          replace IT1 := IT1.below hB (by omega)
          replace D1 := (hB.block _ (by omega)).trans D1
          replace D2 := (hB.block _ (by omega)).trans D2
          replace B6 := (hB.block _ (by omega)).trans B6
          replace B5 := (hB.block _ (by omega)).trans B5
          have c38 := c36.trans (hB.mono (by omega))
          replace tT := tT.below hB tT.lt
          clear hB
          refine hK _ _ ⟨fun _ _ p hp => c38.block p hp, ?_⟩
          clear hK K
          try simp only [Act.put, List.setIfInBounds_toArray, List.set_cons_zero, List.set_cons_succ]
          refine stepK (i := 6) (L := #[true, true, true, true, true, true, true, false]) rfl (by rfl) (by kernel_rfl) (by rfl) (fun K hK => ?_)
          go_simp
          obtain ⟨⟨p1, p2, p3⟩, p4, p5, p6⟩ := boxD B5
          go_simp
          refine hK _ _ ⟨fun _ _ p hp => (below_put c38 (by omega) _ _ _).block p hp, ?_⟩
          clear hK K
          try simp only [Act.put, List.setIfInBounds_toArray, List.set_cons_zero, List.set_cons_succ]
          refine stepK (i := 7) (L := #[true, true, true, true, true, true, true, true]) rfl (by rfl) (by kernel_rfl) (by rfl) (fun K hK => ?_)
          go_simp
          obtain ⟨⟨p1, p2, p3⟩, p4, p5, p6⟩ := boxD B6
          go_simp
          refine hK _ _ ⟨fun _ _ p hp => (below_put (below_put c38 (by omega) _ _ _) (by omega) _ _ _).block p hp, ?_⟩
          clear hK K
          try simp only [Act.put, List.setIfInBounds_toArray, List.set_cons_zero, List.set_cons_succ]
          refine doneE (by kernel_rfl) ?_ _
          go_wp2_with fail
          go_meet
          refine ⟨w29.heap.size, w7.heap.size, T1, m1, T2, m2, rfl, rfl, by omega, by omega, ?_, ?_, ?_, ?_, ?_⟩
          · exact (box_far (by omega) _ _ _).trans (box_put B5 (.bool s1) (.slice T1 n1 m1) (.int .i64 e1))
          · exact box_put ((box_far (by omega) _ _ _).trans B6) (.bool s2) (.slice T2 n2 m2) (.int .i64 e2)
          · exact (below_put (below_put c38 (by omega) _ _ _) (by omega) _ _ _)
          · exact (ints_put (ints_put IT1 (by omega) _ _ _) (by omega) _ _ _).more (by omega) (by rw [size_put, size_put]; omega)
          · exact (ints_put (ints_put IT2 (by omega) _ _ _) (by omega) _ _ _).more (by omega) (by rw [size_put, size_put]; omega)
    case o4_3 =>
      
      go_simp
      have hB := (Below.refl w6.heap.size w6).alloc (Nat.le_refl _) (.cells #[.bool false, .slice none 0 0, .int .i64 0] 24)
      have B5 := heap_alloc_last w6 (.cells #[.bool false, .slice none 0 0, .int .i64 0] 24)
      have mw39 : w6.heap.size < (w6.alloc (.cells #[.bool false, .slice none 0 0, .int .i64 0] 24)).heap.size := by simp
      generalize hw : w6.alloc (.cells #[.bool false, .slice none 0 0, .int .i64 0] 24) = w39 at *
      have lw39 : w6.heap.size ≤ w39.heap.size := hB.size
      replace h1 := h1.below hB (by omega)
      replace h2 := h2.below hB (by omega)
      replace D1 := (hB.block _ (by omega)).trans D1
      replace D2 := (hB.block _ (by omega)).trans D2
      have c40 := hB0.trans (hB.mono (by omega))
      replace tT := tT.below hB tT.lt
      clear hB
      try clear hw
      refine hK _ _ ⟨fun _ _ p hp => c40.block p hp, ?_⟩
      clear hK K
      try simp only [Act.put, List.setIfInBounds_toArray, List.set_cons_zero, List.set_cons_succ]
      refine stepK2 (i := 1) (j := 5) (Li := #[true, true, true, false, true, false, false, false]) (Lj := #[true, false, true, false, true, true, false, false]) rfl rfl (by rfl) (by rfl) (by kernel_rfl) (by rfl) (by rfl) (fun K hK => ?o1_8) (fun K hK => ?o5_8)
      case o1_8 =>
        
        go_simp
        go_at_call 19
        refine (Pa.rTwin_any w39 s1 A1 n1 c1 xs1 e1 (h1.more (Nat.zero_le _) (by omega)) (by omega)).mono ?_
        rintro e' w41 ⟨T1, m1, rfl, lm1, hB, lt1, IT1⟩
        have lw41 : w39.heap.size ≤ w41.heap.size := hB.size
        replace h1 := h1.below hB (by omega)
        replace h2 := h2.below hB (by omega)
        replace D1 := (hB.block _ (by omega)).trans D1
        replace D2 := (hB.block _ (by omega)).trans D2
        replace B5 := (hB.block _ (by omega)).trans B5
        have c42 := c40.trans (hB.mono (by omega))
        replace tT := tT.below hB tT.lt
        clear hB
        refine hK _ _ ⟨fun _ _ p hp => c42.block p hp, ?_⟩
        clear hK K
        try simp only [Act.put, List.setIfInBounds_toArray, List.set_cons_zero, List.set_cons_succ]
        refine stepK2 (i := 3) (j := 5) (Li := #[true, true, true, true, true, false, false, false]) (Lj := #[true, true, true, false, true, true, false, false]) rfl rfl (by rfl) (by rfl) (by kernel_rfl) (by rfl) (by rfl) (fun K hK => ?o3_9) (fun K hK => ?o5_9)
        case o3_9 =>
          
          go_simp
          go_at_call 19
          refine (Pa.rTwin_any w41 s2 A2 n2 c2 xs2 e2 (h2.more (Nat.zero_le _) (by omega)) (by omega)).mono ?_
          rintro e' w43 ⟨T2, m2, rfl, lm2, hB, lt2, IT2⟩
          have lw43 : w41.heap.size ≤ w43.heap.size := hB.size
          replace h1 := h1.below hB (by omega)
          replace h2 := h2.below hB (by omega)
          replace IT1 := IT1.below hB (by omega)
          replace D1 := (hB.block _ (by omega)).trans D1
          replace D2 := (hB.block _ (by omega)).trans D2
          replace B5 := (hB.block _ (by omega)).trans B5
          have c44 := c42.trans (hB.mono (by omega))
          replace tT := tT.below hB tT.lt
          clear hB
          refine hK _ _ ⟨fun _ _ p hp => c44.block p hp, ?_⟩
          clear hK K
          try simp only [Act.put, List.setIfInBounds_toArray, List.set_cons_zero, List.set_cons_succ]
          refine stepK (i := 5) (L := #[true, true, true, true, true, true, false, false]) rfl (by rfl) (by kernel_rfl) (by rfl) (fun K hK => ?_)
          go_simp
          have hB := (Below.refl w43.heap.size w43).alloc (Nat.le_refl _) (.cells #[.bool false, .slice none 0 0, .int .i64 0] 24)
          have B6 := heap_alloc_last w43 (.cells #[.bool false, .slice none 0 0, .int .i64 0] 24)
          have mw45 : w43.heap.size < (w43.alloc (.cells #[.bool false, .slice none 0 0, .int .i64 0] 24)).heap.size := by simp
          generalize hw : w43.alloc (.cells #[.bool false, .slice none 0 0, .int .i64 0] 24) = w45 at *
          have lw45 : w43.heap.size ≤ w45.heap.size := hB.size
          replace h1 := h1.below hB (by omega)
          replace h2 := h2.below hB (by omega)
          replace IT1 := IT1.below hB (by omega)
          replace IT2 := IT2.below hB (by omega)
          replace D1 := (hB.block _ (by omega)).trans D1
          replace D2 := (hB.block _ (by omega)).trans D2
          replace B5 := (hB.block _ (by omega)).trans B5
          have c46 := c44.trans (hB.mono (by omega))
          replace tT := tT.below hB tT.lt
          clear hB
          try clear hw
          refine hK _ _ ⟨fun _ _ p hp => c46.block p hp, ?_⟩
          clear hK K
          try simp only [Act.put, List.setIfInBounds_toArray, List.set_cons_zero, List.set_cons_succ]
          refine stepK (i := 6) (L := #[true, true, true, true, true, true, true, false]) rfl (by rfl) (by kernel_rfl) (by rfl) (fun K hK => ?_)
          go_simp
          obtain ⟨⟨p1, p2, p3⟩, p4, p5, p6⟩ := boxD B5
          go_simp
          refine hK _ _ ⟨fun _ _ p hp => (below_put c46 (by omega) _ _ _).block p hp, ?_⟩
          clear hK K
          try simp only [Act.put, List.setIfInBounds_toArray, List.set_cons_zero, List.set_cons_succ]
          refine stepK (i := 7) (L := #[true, true, true, true, true, true, true, true]) rfl (by rfl) (by kernel_rfl) (by rfl) (fun K hK => ?_)
          go_simp
          obtain ⟨⟨p1, p2, p3⟩, p4, p5, p6⟩ := boxD B6
          go_simp
          refine hK _ _ ⟨fun _ _ p hp => (below_put (below_put c46 (by omega) _ _ _) (by omega) _ _ _).block p hp, ?_⟩
          clear hK K
          try simp only [Act.put, List.setIfInBounds_toArray, List.set_cons_zero, List.set_cons_succ]
          refine doneE (by kernel_rfl) ?_ _
          go_wp2_with fail
          go_meet
          refine ⟨w6.heap.size, w43.heap.size, T1, m1, T2, m2, rfl, rfl, by omega, by omega, ?_, ?_, ?_, ?_, ?_⟩
          · exact (box_far (by omega) _ _ _).trans (box_put B5 (.bool s1) (.slice T1 n1 m1) (.int .i64 e1))
          · exact box_put ((box_far (by omega) _ _ _).trans B6) (.bool s2) (.slice T2 n2 m2) (.int .i64 e2)
          · exact (below_put (below_put c46 (by omega) _ _ _) (by omega) _ _ _)
          · exact (ints_put (ints_put IT1 (by omega) _ _ _) (by omega) _ _ _).more (by omega) (by rw [size_put, size_put]; omega)
          · exact (ints_put (ints_put IT2 (by omega) _ _ _) (by omega) _ _ _).more (by omega) (by rw [size_put, size_put]; omega)
        case o5_9 =>
          
          go_simp
          have hB := (Below.refl w41.heap.size w41).alloc (Nat.le_refl _) (.cells #[.bool false, .slice none 0 0, .int .i64 0] 24)
          have B6 := heap_alloc_last w41 (.cells #[.bool false, .slice none 0 0, .int .i64 0] 24)
          have mw47 : w41.heap.size < (w41.alloc (.cells #[.bool false, .slice none 0 0, .int .i64 0] 24)).heap.size := by simp
          generalize hw : w41.alloc (.cells #[.bool false, .slice none 0 0, .int .i64 0] 24) = w47 at *
          have lw47 : w41.heap.size ≤ w47.heap.size := hB.size
          replace h1 := h1.below hB (by omega)
          replace h2 := h2.below hB (by omega)
          replace IT1 := IT1.below hB (by omega)
          replace D1 := (hB.block _ (by omega)).trans D1
          replace D2 := (hB.block _ (by omega)).trans D2
          replace B5 := (hB.block _ (by omega)).trans B5
          have c48 := c42.trans (hB.mono (by omega))
          replace tT := tT.below hB tT.lt
          clear hB
          try clear hw
          refine hK _ _ ⟨fun _ _ p hp => c48.block p hp, ?_⟩
          clear hK K
          try simp only [Act.put, List.setIfInBounds_toArray, List.set_cons_zero, List.set_cons_succ]
          refine stepK (i := 3) (L := #[true, true, true, true, true, true, false, false]) rfl (by rfl) (by kernel_rfl) (by rfl) (fun K hK => ?_)
          go_simp
          go_at_call 19
          refine (Pa.rTwin_any w47 s2 A2 n2 c2 xs2 e2 (h2.more (Nat.zero_le _) (by omega)) (by omega)).mono ?_
          rintro e' w49 ⟨T2, m2, rfl, lm2, hB, lt2, IT2⟩
          have lw49 : w47.heap.size ≤ w49.heap.size := hB.size
          replace h1 := h1.below hB (by omega)
          replace h2 := h2.below hB (by omega)
          replace IT1 := IT1.below hB (by omega)
          replace D1 := (hB.block _ (by omega)).trans D1
          replace D2 := (hB.block _ (by omega)).trans D2
          replace B5 := (hB.block _ (by omega)).trans B5
          replace B6 := (hB.block _ (by omega)).trans B6
          have c50 := c48.trans (hB.mono (by omega))
          replace tT := tT.below hB tT.lt
          clear hB
          refine hK _ _ ⟨fun _ _ p hp => c50.block p hp, ?_⟩
          clear hK K
          try simp only [Act.put, List.setIfInBounds_toArray, List.set_cons_zero, List.set_cons_succ]
          refine stepK (i := 6) (L := #[true, true, true, true, true, true, true, false]) rfl (by rfl) (by kernel_rfl) (by rfl) (fun K hK => ?_)
          go_simp
          obtain ⟨⟨p1, p2, p3⟩, p4, p5, p6⟩ := boxD B5
          go_simp
          refine hK _ _ ⟨fun _ _ p hp => (below_put c50 (by omega) _ _ _).block p hp, ?_⟩
          clear hK K
          try simp only [Act.put, List.setIfInBounds_toArray, List.set_cons_zero, List.set_cons_succ]
          refine stepK (i := 7) (L := #[true, true, true, true, true, true, true, true]) rfl (by rfl) (by kernel_rfl) (by rfl) (fun K hK => ?_)
          go_simp
          obtain ⟨⟨p1, p2, p3⟩, p4, p5, p6⟩ := boxD B6
          go_simp
          refine hK _ _ ⟨fun _ _ p hp => (below_put (below_put c50 (by omega) _ _ _) (by omega) _ _ _).block p hp, ?_⟩
          clear hK K
          try simp only [Act.put, List.setIfInBounds_toArray, List.set_cons_zero, List.set_cons_succ]
          refine doneE (by kernel_rfl) ?_ _
          go_wp2_with fail
          go_meet
          refine ⟨w6.heap.size, w41.heap.size, T1, m1, T2, m2, rfl, rfl, by omega, by omega, ?_, ?_, ?_, ?_, ?_⟩
          · exact (box_far (by omega) _ _ _).trans (box_put B5 (.bool s1) (.slice T1 n1 m1) (.int .i64 e1))
          · exact box_put ((box_far (by omega) _ _ _).trans B6) (.bool s2) (.slice T2 n2 m2) (.int .i64 e2)
          · exact (below_put (below_put c50 (by omega) _ _ _) (by omega) _ _ _)
          · exact (ints_put (ints_put IT1 (by omega) _ _ _) (by omega) _ _ _).more (by omega) (by rw [size_put, size_put]; omega)
          · exact (ints_put (ints_put IT2 (by omega) _ _ _) (by omega) _ _ _).more (by omega) (by rw [size_put, size_put]; omega)
      case o5_8 =>
        
        go_simp
        have hB := (Below.refl w39.heap.size w39).alloc (Nat.le_refl _) (.cells #[.bool false, .slice none 0 0, .int .i64 0] 24)
        have B6 := heap_alloc_last w39 (.cells #[.bool false, .slice none 0 0, .int .i64 0] 24)
        have mw51 : w39.heap.size < (w39.alloc (.cells #[.bool false, .slice none 0 0, .int .i64 0] 24)).heap.size := by simp
        generalize hw : w39.alloc (.cells #[.bool false, .slice none 0 0, .int .i64 0] 24) = w51 at *
        have lw51 : w39.heap.size ≤ w51.heap.size := hB.size
        replace h1 := h1.below hB (by omega)
        replace h2 := h2.below hB (by omega)
        replace D1 := (hB.block _ (by omega)).trans D1
        replace D2 := (hB.block _ (by omega)).trans D2
        replace B5 := (hB.block _ (by omega)).trans B5
        have c52 := c40.trans (hB.mono (by omega))
        replace tT := tT.below hB tT.lt
        clear hB
        try clear hw
        refine hK _ _ ⟨fun _ _ p hp => c52.block p hp, ?_⟩
        clear hK K
        try simp only [Act.put, List.setIfInBounds_toArray, List.set_cons_zero, List.set_cons_succ]
        refine stepK (i := 1) (L := #[true, true, true, false, true, true, false, false]) rfl (by rfl) (by kernel_rfl) (by rfl) (fun K hK => ?_)
        go_simp
        go_at_call 19
        refine (Pa.rTwin_any w51 s1 A1 n1 c1 xs1 e1 (h1.more (Nat.zero_le _) (by omega)) (by omega)).mono ?_
        rintro e' w53 ⟨T1, m1, rfl, lm1, hB, lt1, IT1⟩
        have lw53 : w51.heap.size ≤ w53.heap.size := hB.size
        replace h1 := h1.below hB (by omega)
        replace h2 := h2.below hB (by omega)
        replace D1 := (hB.block _ (by omega)).trans D1
        replace D2 := (hB.block _ (by omega)).trans D2
        replace B5 := (hB.block _ (by omega)).trans B5
        replace B6 := (hB.block _ (by omega)).trans B6
        have c54 := c52.trans (hB.mono (by omega))
        replace tT := tT.below hB tT.lt
        clear hB
        refine hK _ _ ⟨fun _ _ p hp => c54.block p hp, ?_⟩
        clear hK K
        try simp only [Act.put, List.setIfInBounds_toArray, List.set_cons_zero, List.set_cons_succ]
        refine stepK (i := 3) (L := #[true, true, true, true, true, true, false, false]) rfl (by rfl) (by kernel_rfl) (by rfl) (fun K hK => ?_)
        go_simp
        go_at_call 19
        refine (Pa.rTwin_any w53 s2 A2 n2 c2 xs2 e2 (h2.more (Nat.zero_le _) (by omega)) (by omega)).mono ?_
        rintro e' w55 ⟨T2, m2, rfl, lm2, hB, lt2, IT2⟩
        have lw55 : w53.heap.size ≤ w55.heap.size := hB.size
        replace h1 := h1.below hB (by omega)
        replace h2 := h2.below hB (by omega)
        replace IT1 := IT1.below hB (by omega)
        replace D1 := (hB.block _ (by omega)).trans D1
        replace D2 := (hB.block _ (by omega)).trans D2
        replace B5 := (hB.block _ (by omega)).trans B5
        replace B6 := (hB.block _ (by omega)).trans B6
        have c56 := c54.trans (hB.mono (by omega))
        replace tT := tT.below hB tT.lt
        clear hB
        refine hK _ _ ⟨fun _ _ p hp => c56.block p hp, ?_⟩
        clear hK K
        try simp only [Act.put, List.setIfInBounds_toArray, List.set_cons_zero, List.set_cons_succ]
        refine stepK (i := 6) (L := #[true, true, true, true, true, true, true, false]) rfl (by rfl) (by kernel_rfl) (by rfl) (fun K hK => ?_)
        go_simp
        obtain ⟨⟨p1, p2, p3⟩, p4, p5, p6⟩ := boxD B5
        go_simp
        refine hK _ _ ⟨fun _ _ p hp => (below_put c56 (by omega) _ _ _).block p hp, ?_⟩
        clear hK K
        try simp only [Act.put, List.setIfInBounds_toArray, List.set_cons_zero, List.set_cons_succ]
        refine stepK (i := 7) (L := #[true, true, true, true, true, true, true, true]) rfl (by rfl) (by kernel_rfl) (by rfl) (fun K hK => ?_)
        go_simp
        obtain ⟨⟨p1, p2, p3⟩, p4, p5, p6⟩ := boxD B6
        go_simp
        refine hK _ _ ⟨fun _ _ p hp => (below_put (below_put c56 (by omega) _ _ _) (by omega) _ _ _).block p hp, ?_⟩
        clear hK K
        try simp only [Act.put, List.setIfInBounds_toArray, List.set_cons_zero, List.set_cons_succ]
        refine doneE (by kernel_rfl) ?_ _
        go_wp2_with fail
        go_meet
        refine ⟨w6.heap.size, w39.heap.size, T1, m1, T2, m2, rfl, rfl, by omega, by omega, ?_, ?_, ?_, ?_, ?_⟩
        · exact (box_far (by omega) _ _ _).trans (box_put B5 (.bool s1) (.slice T1 n1 m1) (.int .i64 e1))
        · exact box_put ((box_far (by omega) _ _ _).trans B6) (.bool s2) (.slice T2 n2 m2) (.int .i64 e2)
        · exact (below_put (below_put c56 (by omega) _ _ _) (by omega) _ _ _)
        · exact (ints_put (ints_put IT1 (by omega) _ _ _) (by omega) _ _ _).more (by omega) (by rw [size_put, size_put]; omega)
        · exact (ints_put (ints_put IT2 (by omega) _ _ _) (by omega) _ _ _).more (by omega) (by rw [size_put, size_put]; omega)
    case o5_3 =>
      
      go_simp
      have hB := (Below.refl w6.heap.size w6).alloc (Nat.le_refl _) (.cells #[.bool false, .slice none 0 0, .int .i64 0] 24)
      have B6 := heap_alloc_last w6 (.cells #[.bool false, .slice none 0 0, .int .i64 0] 24)
      have mw57 : w6.heap.size < (w6.alloc (.cells #[.bool false, .slice none 0 0, .int .i64 0] 24)).heap.size := by simp
      generalize hw : w6.alloc (.cells #[.bool false, .slice none 0 0, .int .i64 0] 24) = w57 at *
      have lw57 : w6.heap.size ≤ w57.heap.size := hB.size
      replace h1 := h1.below hB (by omega)
      replace h2 := h2.below hB (by omega)
      replace D1 := (hB.block _ (by omega)).trans D1
      replace D2 := (hB.block _ (by omega)).trans D2
      have c58 := hB0.trans (hB.mono (by omega))
      replace tT := tT.below hB tT.lt
      clear hB
      try clear hw
      refine hK _ _ ⟨fun _ _ p hp => c58.block p hp, ?_⟩
      clear hK K
      try simp only [Act.put, List.setIfInBounds_toArray, List.set_cons_zero, List.set_cons_succ]
      refine stepK2 (i := 1) (j := 4) (Li := #[true, true, true, false, false, true, false, false]) (Lj := #[true, false, true, false, true, true, false, false]) rfl rfl (by rfl) (by rfl) (by kernel_rfl) (by rfl) (by rfl) (fun K hK => ?o1_10) (fun K hK => ?o4_10)
      case o1_10 =>
        
        go_simp
        go_at_call 19
        refine (Pa.rTwin_any w57 s1 A1 n1 c1 xs1 e1 (h1.more (Nat.zero_le _) (by omega)) (by omega)).mono ?_
        rintro e' w59 ⟨T1, m1, rfl, lm1, hB, lt1, IT1⟩
        have lw59 : w57.heap.size ≤ w59.heap.size := hB.size
        replace h1 := h1.below hB (by omega)
        replace h2 := h2.below hB (by omega)
        replace D1 := (hB.block _ (by omega)).trans D1
        replace D2 := (hB.block _ (by omega)).trans D2
        replace B6 := (hB.block _ (by omega)).trans B6
        have c60 := c58.trans (hB.mono (by omega))
        replace tT := tT.below hB tT.lt
        clear hB
        refine hK _ _ ⟨fun _ _ p hp => c60.block p hp, ?_⟩
        clear hK K
        try simp only [Act.put, List.setIfInBounds_toArray, List.set_cons_zero, List.set_cons_succ]
        refine stepK2 (i := 3) (j := 4) (Li := #[true, true, true, true, false, true, false, false]) (Lj := #[true, true, true, false, true, true, false, false]) rfl rfl (by rfl) (by rfl) (by kernel_rfl) (by rfl) (by rfl) (fun K hK => ?o3_11) (fun K hK => ?o4_11)
        case o3_11 =>
          
          go_simp
          go_at_call 19
          refine (Pa.rTwin_any w59 s2 A2 n2 c2 xs2 e2 (h2.more (Nat.zero_le _) (by omega)) (by omega)).mono ?_
          rintro e' w61 ⟨T2, m2, rfl, lm2, hB, lt2, IT2⟩
          have lw61 : w59.heap.size ≤ w61.heap.size := hB.size
          replace h1 := h1.below hB (by omega)
          replace h2 := h2.below hB (by omega)
          replace IT1 := IT1.below hB (by omega)
          replace D1 := (hB.block _ (by omega)).trans D1
          replace D2 := (hB.block _ (by omega)).trans D2
          replace B6 := (hB.block _ (by omega)).trans B6
          have c62 := c60.trans (hB.mono (by omega))
          replace tT := tT.below hB tT.lt
          clear hB
          refine hK _ _ ⟨fun _ _ p hp => c62.block p hp, ?_⟩
          clear hK K
          try simp only [Act.put, List.setIfInBounds_toArray, List.set_cons_zero, List.set_cons_succ]
          refine stepK (i := 4) (L := #[true, true, true, true, true, true, false, false]) rfl (by rfl) (by kernel_rfl) (by rfl) (fun K hK => ?_)
          go_simp
          have hB := (Below.refl w61.heap.size w61).alloc (Nat.le_refl _) (.cells #[.bool false, .slice none 0 0, .int .i64 0] 24)
          have B5 := heap_alloc_last w61 (.cells #[.bool false, .slice none 0 0, .int .i64 0] 24)
          have mw63 : w61.heap.size < (w61.alloc (.cells #[.bool false, .slice none 0 0, .int .i64 0] 24)).heap.size := by simp
          generalize hw : w61.alloc (.cells #[.bool false, .slice none 0 0, .int .i64 0] 24) = w63 at *
          have lw63 : w61.heap.size ≤ w63.heap.size := hB.size
          replace h1 := h1.below hB (by omega)
          replace h2 := h2.below hB (by omega)
          replace IT1 := IT1.below hB (by omega)
          replace IT2 := IT2.below hB (by omega)
          replace D1 := (hB.block _ (by omega)).trans D1
          replace D2 := (hB.block _ (by omega)).trans D2
          replace B6 := (hB.block _ (by omega)).trans B6
          have c64 := c62.trans (hB.mono (by omega))
          replace tT := tT.below hB tT.lt
          clear hB
          try clear hw
          refine hK _ _ ⟨fun _ _ p hp => c64.block p hp, ?_⟩
          clear hK K
          try simp only [Act.put, List.setIfInBounds_toArray, List.set_cons_zero, List.set_cons_succ]
          refine stepK (i := 6) (L := #[true, true, true, true, true, true, true, false]) rfl (by rfl) (by kernel_rfl) (by rfl) (fun K hK => ?_)
          go_simp
          obtain ⟨⟨p1, p2, p3⟩, p4, p5, p6⟩ := boxD B5
          go_simp
          refine hK _ _ ⟨fun _ _ p hp => (below_put c64 (by omega) _ _ _).block p hp, ?_⟩
          clear hK K
          try simp only [Act.put, List.setIfInBounds_toArray, List.set_cons_zero, List.set_cons_succ]
          refine stepK (i := 7) (L := #[true, true, true, true, true, true, true, true]) rfl (by rfl) (by kernel_rfl) (by rfl) (fun K hK => ?_)
          go_simp
          obtain ⟨⟨p1, p2, p3⟩, p4, p5, p6⟩ := boxD B6
          go_simp
          refine hK _ _ ⟨fun _ _ p hp => (below_put (below_put c64 (by omega) _ _ _) (by omega) _ _ _).block p hp, ?_⟩
          clear hK K
          try simp only [Act.put, List.setIfInBounds_toArray, List.set_cons_zero, List.set_cons_succ]
          refine doneE (by kernel_rfl) ?_ _
          go_wp2_with fail
          go_meet
          refine ⟨w61.heap.size, w6.heap.size, T1, m1, T2, m2, rfl, rfl, by omega, by omega, ?_, ?_, ?_, ?_, ?_⟩
          · exact (box_far (by omega) _ _ _).trans (box_put B5 (.bool s1) (.slice T1 n1 m1) (.int .i64 e1))
          · exact box_put ((box_far (by omega) _ _ _).trans B6) (.bool s2) (.slice T2 n2 m2) (.int .i64 e2)
          · exact (below_put (below_put c64 (by omega) _ _ _) (by omega) _ _ _)
          · exact (ints_put (ints_put IT1 (by omega) _ _ _) (by omega) _ _ _).more (by omega) (by rw [size_put, size_put]; omega)
          · exact (ints_put (ints_put IT2 (by omega) _ _ _) (by omega) _ _ _).more (by omega) (by rw [size_put, size_put]; omega)
        case o4_11 =>
          
          go_simp
          have hB := (Below.refl w59.heap.size w59).alloc (Nat.le_refl _) (.cells #[.bool false, .slice none 0 0, .int .i64 0] 24)
          have B5 := heap_alloc_last w59 (.cells #[.bool false, .slice none 0 0, .int .i64 0] 24)
          have mw65 : w59.heap.size < (w59.alloc (.cells #[.bool false, .slice none 0 0, .int .i64 0] 24)).heap.size := by simp
          generalize hw : w59.alloc (.cells #[.bool false, .slice none 0 0, .int .i64 0] 24) = w65 at *
          have lw65 : w59.heap.size ≤ w65.heap.size := hB.size
          replace h1 := h1.below hB (by omega)
          replace h2 := h2.below hB (by omega)
          replace IT1 := IT1.below hB (by omega)
          replace D1 := (hB.block _ (by omega)).trans D1
          replace D2 := (hB.block _ (by omega)).trans D2
          replace B6 := (hB.block _ (by omega)).trans B6
          have c66 := c60.trans (hB.mono (by omega))
          replace tT := tT.below hB tT.lt
          clear hB
          try clear hw
          refine hK _ _ ⟨fun _ _ p hp => c66.block p hp, ?_⟩
          clear hK K
          try simp only [Act.put, List.setIfInBounds_toArray, List.set_cons_zero, List.set_cons_succ]
          refine stepK (i := 3) (L := #[true, true, true, true, true, true, false, false]) rfl (by rfl) (by kernel_rfl) (by rfl) (fun K hK => ?_)
          go_simp
          go_at_call 19
          refine (Pa.rTwin_any w65 s2 A2 n2 c2 xs2 e2 (h2.more (Nat.zero_le _) (by omega)) (by omega)).mono ?_
          rintro e' w67 ⟨T2, m2, rfl, lm2, hB, lt2, IT2⟩
          have lw67 : w65.heap.size ≤ w67.heap.size := hB.size
          replace h1 := h1.below hB (by omega)
          replace h2 := h2.below hB (by omega)
          replace IT1 := IT1.below hB (by omega)
          replace D1 := (hB.block _ (by omega)).trans D1
          replace D2 := (hB.block _ (by omega)).trans D2
          replace B6 := (hB.block _ (by omega)).trans B6
          replace B5 := (hB.block _ (by omega)).trans B5
          have c68 := c66.trans (hB.mono (by omega))
          replace tT := tT.below hB tT.lt
          clear hB
          refine hK _ _ ⟨fun _ _ p hp => c68.block p hp, ?_⟩
          clear hK K
          try simp only [Act.put, List.setIfInBounds_toArray, List.set_cons_zero, List.set_cons_succ]
          refine stepK (i := 6) (L := #[true, true, true, true, true, true, true, false]) rfl (by rfl) (by kernel_rfl) (by rfl) (fun K hK => ?_)
          go_simp
          obtain ⟨⟨p1, p2, p3⟩, p4, p5, p6⟩ := boxD B5
          go_simp
          refine hK _ _ ⟨fun _ _ p hp => (below_put c68 (by omega) _ _ _).block p hp, ?_⟩
          clear hK K
          try simp only [Act.put, List.setIfInBounds_toArray, List.set_cons_zero, List.set_cons_succ]
          refine stepK (i := 7) (L := #[true, true, true, true, true, true, true, true]) rfl (by rfl) (by kernel_rfl) (by rfl) (fun K hK => ?_)
          go_simp
          obtain ⟨⟨p1, p2, p3⟩, p4, p5, p6⟩ := boxD B6
          go_simp
          refine hK _ _ ⟨fun _ _ p hp => (below_put (below_put c68 (by omega) _ _ _) (by omega) _ _ _).block p hp, ?_⟩
          clear hK K
          try simp only [Act.put, List.setIfInBounds_toArray, List.set_cons_zero, List.set_cons_succ]
          refine doneE (by kernel_rfl) ?_ _
          go_wp2_with fail
          go_meet
          refine ⟨w59.heap.size, w6.heap.size, T1, m1, T2, m2, rfl, rfl, by omega, by omega, ?_, ?_, ?_, ?_, ?_⟩
          · exact (box_far (by omega) _ _ _).trans (box_put B5 (.bool s1) (.slice T1 n1 m1) (.int .i64 e1))
          · exact box_put ((box_far (by omega) _ _ _).trans B6) (.bool s2) (.slice T2 n2 m2) (.int .i64 e2)
          · exact (below_put (below_put c68 (by omega) _ _ _) (by omega) _ _ _)
          · exact (ints_put (ints_put IT1 (by omega) _ _ _) (by omega) _ _ _).more (by omega) (by rw [size_put, size_put]; omega)
          · exact (ints_put (ints_put IT2 (by omega) _ _ _) (by omega) _ _ _).more (by omega) (by rw [size_put, size_put]; omega)
      case o4_10 =>
        
        go_simp
        have hB := (Below.refl w57.heap.size w57).alloc (Nat.le_refl _) (.cells #[.bool false, .slice none 0 0, .int .i64 0] 24)
        have B5 := heap_alloc_last w57 (.cells #[.bool false, .slice none 0 0, .int .i64 0] 24)
        have mw69 : w57.heap.size < (w57.alloc (.cells #[.bool false, .slice none 0 0, .int .i64 0] 24)).heap.size := by simp
        generalize hw : w57.alloc (.cells #[.bool false, .slice none 0 0, .int .i64 0] 24) = w69 at *
        have lw69 : w57.heap.size ≤ w69.heap.size := hB.size
        replace h1 := h1.below hB (by omega)
        replace h2 := h2.below hB (by omega)
        replace D1 := (hB.block _ (by omega)).trans D1
        replace D2 := (hB.block _ (by omega)).trans D2
        replace B6 := (hB.block _ (by omega)).trans B6
        have c70 := c58.trans (hB.mono (by omega))
        replace tT := tT.below hB tT.lt
        clear hB
        try clear hw
        refine hK _ _ ⟨fun _ _ p hp => c70.block p hp, ?_⟩
        clear hK K
        try simp only [Act.put, List.setIfInBounds_toArray, List.set_cons_zero, List.set_cons_succ]
        refine stepK (i := 1) (L := #[true, true, true, false, true, true, false, false]) rfl (by rfl) (by kernel_rfl) (by rfl) (fun K hK => ?_)
        go_simp
        go_at_call 19
        refine (Pa.rTwin_any w69 s1 A1 n1 c1 xs1 e1 (h1.more (Nat.zero_le _) (by omega)) (by omega)).mono ?_
        rintro e' w71 ⟨T1, m1, rfl, lm1, hB, lt1, IT1⟩
        have lw71 : w69.heap.size ≤ w71.heap.size := hB.size
        replace h1 := h1.below hB (by omega)
        replace h2 := h2.below hB (by omega)
        replace D1 := (hB.block _ (by omega)).trans D1
        replace D2 := (hB.block _ (by omega)).trans D2
        replace B6 := (hB.block _ (by omega)).trans B6
        replace B5 := (hB.block _ (by omega)).trans B5
        have c72 := c70.trans (hB.mono (by omega))
        replace tT := tT.below hB tT.lt
        clear hB
        refine hK _ _ ⟨fun _ _ p hp => c72.block p hp, ?_⟩
        clear hK K
        try simp only [Act.put, List.setIfInBounds_toArray, List.set_cons_zero, List.set_cons_succ]
        refine stepK (i := 3) (L := #[true, true, true, true, true, true, false, false]) rfl (by rfl) (by kernel_rfl) (by rfl) (fun K hK => ?_)
        go_simp
        go_at_call 19
        refine (Pa.rTwin_any w71 s2 A2 n2 c2 xs2 e2 (h2.more (Nat.zero_le _) (by omega)) (by omega)).mono ?_
        rintro e' w73 ⟨T2, m2, rfl, lm2, hB, lt2, IT2⟩
        have lw73 : w71.heap.size ≤ w73.heap.size := hB.size
        replace h1 := h1.below hB (by omega)
        replace h2 := h2.below hB (by omega)
        replace IT1 := IT1.below hB (by omega)
        replace D1 := (hB.block _ (by omega)).trans D1
        replace D2 := (hB.block _ (by omega)).trans D2
        replace B6 := (hB.block _ (by omega)).trans B6
        replace B5 := (hB.block _ (by omega)).trans B5
        have c74 := c72.trans (hB.mono (by omega))
        replace tT := tT.below hB tT.lt
        clear hB
        refine hK _ _ ⟨fun _ _ p hp => c74.block p hp, ?_⟩
        clear hK K
        try simp only [Act.put, List.setIfInBounds_toArray, List.set_cons_zero, List.set_cons_succ]
        refine stepK (i := 6) (L := #[true, true, true, true, true, true, true, false]) rfl (by rfl) (by kernel_rfl) (by rfl) (fun K hK => ?_)
        go_simp
        obtain ⟨⟨p1, p2, p3⟩, p4, p5, p6⟩ := boxD B5
        go_simp
        refine hK _ _ ⟨fun _ _ p hp => (below_put c74 (by omega) _ _ _).block p hp, ?_⟩
        clear hK K
        try simp only [Act.put, List.setIfInBounds_toArray, List.set_cons_zero, List.set_cons_succ]
        refine stepK (i := 7) (L := #[true, true, true, true, true, true, true, true]) rfl (by rfl) (by kernel_rfl) (by rfl) (fun K hK => ?_)
        go_simp
        obtain ⟨⟨p1, p2, p3⟩, p4, p5, p6⟩ := boxD B6
        go_simp
        refine hK _ _ ⟨fun _ _ p hp => (below_put (below_put c74 (by omega) _ _ _) (by omega) _ _ _).block p hp, ?_⟩
        clear hK K
        try simp only [Act.put, List.setIfInBounds_toArray, List.set_cons_zero, List.set_cons_succ]
        refine doneE (by kernel_rfl) ?_ _
        go_wp2_with fail
        go_meet
        refine ⟨w57.heap.size, w6.heap.size, T1, m1, T2, m2, rfl, rfl, by omega, by omega, ?_, ?_, ?_, ?_, ?_⟩
        · exact (box_far (by omega) _ _ _).trans (box_put B5 (.bool s1) (.slice T1 n1 m1) (.int .i64 e1))
        · exact box_put ((box_far (by omega) _ _ _).trans B6) (.bool s2) (.slice T2 n2 m2) (.int .i64 e2)
        · exact (below_put (below_put c74 (by omega) _ _ _) (by omega) _ _ _)
        · exact (ints_put (ints_put IT1 (by omega) _ _ _) (by omega) _ _ _).more (by omega) (by rw [size_put, size_put]; omega)
        · exact (ints_put (ints_put IT2 (by omega) _ _ _) (by omega) _ _ _).more (by omega) (by rw [size_put, size_put]; omega)
  case rest =>
    obtain ⟨g5, g6, T5, m5, T6, m6, rfl, rfl, lg5, lg6, D5, D6, hB, t1, t2⟩ := hcut
    have lwc : w4.heap.size ≤ wc.heap.size := hB.size
    have k5 := (Array.getElem?_eq_some_iff.1 D5).1
    have k6 := (Array.getElem?_eq_some_iff.1 D6).1
    obtain ⟨hi0, hhi0⟩ : ∃ h, h = wc.heap.size := ⟨_, rfl⟩
    have lh1 : hi0 ≤ wc.heap.size := by omega
    have lh2 : wc.heap.size ≤ hi0 := by omega
    rw [← hhi0] at t1 t2
    clear hhi0
    have lwc : w4.heap.size ≤ wc.heap.size := hB.size
    replace h1 := h1.below hB (by omega)
    replace h2 := h2.below hB (by omega)
    replace D1 := (hB.block _ (by omega)).trans D1
    replace D2 := (hB.block _ (by omega)).trans D2
    have c76 := c5.trans (hB.mono (by omega))
    replace tT := tT.below hB tT.lt
    clear hB
    obtain ⟨⟨pD5, qD5, rD5⟩, uD5, vD5, xD5⟩ := boxD D5
    obtain ⟨⟨pD6, qD6, rD6⟩, uD6, vD6, xD6⟩ := boxD D6
    go_wp2_with fail
    refine (Add_all wc s1 s2 T5 T6 n1 m5 n2 m6 xs1 xs2 e1 e2 (t1.more (Nat.zero_le _) (by omega)) (t2.more (Nat.zero_le _) (by omega)) tT rx kx HX.out).mono ?_
    rintro e' w77 ⟨P7, i7, d7, rfl, lc7, hB, J7⟩
    clear pD5 qD5 rD5 uD5 vD5 xD5 pD6 qD6 rD6 uD6 vD6 xD6
    have lw77 : wc.heap.size ≤ w77.heap.size := hB.size
    replace h1 := h1.below hB (by omega)
    replace h2 := h2.below hB (by omega)
    replace t1 := t1.below hB (by omega)
    replace t2 := t2.below hB (by omega)
    replace D1 := (hB.block _ (by omega)).trans D1
    replace D2 := (hB.block _ (by omega)).trans D2
    replace D5 := (hB.block _ (by omega)).trans D5
    replace D6 := (hB.block _ (by omega)).trans D6
    have c78 := c76.trans (hB.mono (by omega))
    replace tT := tT.below hB tT.lt
    clear hB
    have hB := (Below.refl w77.heap.size w77).alloc (Nat.le_refl _) (.cells #[.bool rx.neg, .slice P7 i7 d7, .int .i64 rx.e] 24)
    have E7 := heap_alloc_last w77 (.cells #[.bool rx.neg, .slice P7 i7 d7, .int .i64 rx.e] 24)
    have mw79 : w77.heap.size < (w77.alloc (.cells #[.bool rx.neg, .slice P7 i7 d7, .int .i64 rx.e] 24)).heap.size := by simp
    generalize hw : w77.alloc (.cells #[.bool rx.neg, .slice P7 i7 d7, .int .i64 rx.e] 24) = w79 at *
    have lw79 : w77.heap.size ≤ w79.heap.size := hB.size
    replace h1 := h1.below hB (by omega)
    replace h2 := h2.below hB (by omega)
    replace t1 := t1.below hB (by omega)
    replace t2 := t2.below hB (by omega)
    replace J7 := J7.below hB (by omega)
    replace D1 := (hB.block _ (by omega)).trans D1
    replace D2 := (hB.block _ (by omega)).trans D2
    replace D5 := (hB.block _ (by omega)).trans D5
    replace D6 := (hB.block _ (by omega)).trans D6
    have c80 := c78.trans (hB.mono (by omega))
    replace tT := tT.below hB tT.lt
    clear hB
    obtain ⟨⟨pD1, qD1, rD1⟩, uD1, vD1, xD1⟩ := boxD D1
    obtain ⟨⟨pD2, qD2, rD2⟩, uD2, vD2, xD2⟩ := boxD D2
    go_wp2_with fail
    refine (rAdd_all w79 s1 s2 A1 A2 n1 c1 n2 c2 xs1 xs2 e1 e2 (h1.more (Nat.zero_le _) (by omega)) (h2.more (Nat.zero_le _) (by omega)) rx kx HX.out).mono ?_
    rintro e' w81 ⟨P9, i9, d9, rfl, lc9, hB, J9⟩
    clear pD1 qD1 rD1 uD1 vD1 xD1 pD2 qD2 rD2 uD2 vD2 xD2
    have lw81 : w79.heap.size ≤ w81.heap.size := hB.size
    replace h1 := h1.below hB (by omega)
    replace h2 := h2.below hB (by omega)
    replace t1 := t1.below hB (by omega)
    replace t2 := t2.below hB (by omega)
    replace J7 := J7.below hB (by omega)
    replace D1 := (hB.block _ (by omega)).trans D1
    replace D2 := (hB.block _ (by omega)).trans D2
    replace D5 := (hB.block _ (by omega)).trans D5
    replace D6 := (hB.block _ (by omega)).trans D6
    replace E7 := (hB.block _ (by omega)).trans E7
    have c82 := c80.trans (hB.mono (by omega))
    replace tT := tT.below hB tT.lt
    clear hB
    have hB := (Below.refl w81.heap.size w81).alloc (Nat.le_refl _) (.cells #[.bool rx.neg, .slice P9 i9 d9, .int .i64 rx.e] 24)
    have E9 := heap_alloc_last w81 (.cells #[.bool rx.neg, .slice P9 i9 d9, .int .i64 rx.e] 24)
    have mw83 : w81.heap.size < (w81.alloc (.cells #[.bool rx.neg, .slice P9 i9 d9, .int .i64 rx.e] 24)).heap.size := by simp
    generalize hw : w81.alloc (.cells #[.bool rx.neg, .slice P9 i9 d9, .int .i64 rx.e] 24) = w83 at *
    have lw83 : w81.heap.size ≤ w83.heap.size := hB.size
    replace h1 := h1.below hB (by omega)
    replace h2 := h2.below hB (by omega)
    replace t1 := t1.below hB (by omega)
    replace t2 := t2.below hB (by omega)
    replace J7 := J7.below hB (by omega)
    replace J9 := J9.below hB (by omega)
    replace D1 := (hB.block _ (by omega)).trans D1
    replace D2 := (hB.block _ (by omega)).trans D2
    replace D5 := (hB.block _ (by omega)).trans D5
    replace D6 := (hB.block _ (by omega)).trans D6
    replace E7 := (hB.block _ (by omega)).trans E7
    have c84 := c82.trans (hB.mono (by omega))
    replace tT := tT.below hB tT.lt
    clear hB
    obtain ⟨⟨pD5, qD5, rD5⟩, uD5, vD5, xD5⟩ := boxD D5
    obtain ⟨⟨pD6, qD6, rD6⟩, uD6, vD6, xD6⟩ := boxD D6
    go_wp2_with fail
    refine (Sub_all w83 s1 s2 T5 T6 n1 m5 n2 m6 xs1 xs2 e1 e2 (t1.more (Nat.zero_le _) (by omega)) (t2.more (Nat.zero_le _) (by omega)) tT rp kp HP.out).mono ?_
    rintro e' w85 ⟨P11, i11, d11, rfl, lc11, hB, J11⟩
    clear pD5 qD5 rD5 uD5 vD5 xD5 pD6 qD6 rD6 uD6 vD6 xD6
    have lw85 : w83.heap.size ≤ w85.heap.size := hB.size
    replace h1 := h1.below hB (by omega)
    replace h2 := h2.below hB (by omega)
    replace t1 := t1.below hB (by omega)
    replace t2 := t2.below hB (by omega)
    replace J7 := J7.below hB (by omega)
    replace J9 := J9.below hB (by omega)
    replace D1 := (hB.block _ (by omega)).trans D1
    replace D2 := (hB.block _ (by omega)).trans D2
    replace D5 := (hB.block _ (by omega)).trans D5
    replace D6 := (hB.block _ (by omega)).trans D6
    replace E7 := (hB.block _ (by omega)).trans E7
    replace E9 := (hB.block _ (by omega)).trans E9
    have c86 := c84.trans (hB.mono (by omega))
    replace tT := tT.below hB tT.lt
    clear hB
    have hB := (Below.refl w85.heap.size w85).alloc (Nat.le_refl _) (.cells #[.bool rp.neg, .slice P11 i11 d11, .int .i64 rp.e] 24)
    have E11 := heap_alloc_last w85 (.cells #[.bool rp.neg, .slice P11 i11 d11, .int .i64 rp.e] 24)
    have mw87 : w85.heap.size < (w85.alloc (.cells #[.bool rp.neg, .slice P11 i11 d11, .int .i64 rp.e] 24)).heap.size := by simp
    generalize hw : w85.alloc (.cells #[.bool rp.neg, .slice P11 i11 d11, .int .i64 rp.e] 24) = w87 at *
    have lw87 : w85.heap.size ≤ w87.heap.size := hB.size
    replace h1 := h1.below hB (by omega)
    replace h2 := h2.below hB (by omega)
    replace t1 := t1.below hB (by omega)
    replace t2 := t2.below hB (by omega)
    replace J7 := J7.below hB (by omega)
    replace J9 := J9.below hB (by omega)
    replace J11 := J11.below hB (by omega)
    replace D1 := (hB.block _ (by omega)).trans D1
    replace D2 := (hB.block _ (by omega)).trans D2
    replace D5 := (hB.block _ (by omega)).trans D5
    replace D6 := (hB.block _ (by omega)).trans D6
    replace E7 := (hB.block _ (by omega)).trans E7
    replace E9 := (hB.block _ (by omega)).trans E9
    have c88 := c86.trans (hB.mono (by omega))
    replace tT := tT.below hB tT.lt
    clear hB
    obtain ⟨⟨pD1, qD1, rD1⟩, uD1, vD1, xD1⟩ := boxD D1
    obtain ⟨⟨pD2, qD2, rD2⟩, uD2, vD2, xD2⟩ := boxD D2
    go_wp2_with fail
    refine (rSub_all w87 s1 s2 A1 A2 n1 c1 n2 c2 xs1 xs2 e1 e2 (h1.more (Nat.zero_le _) (by omega)) (h2.more (Nat.zero_le _) (by omega)) rp kp HP.out).mono ?_
    rintro e' w89 ⟨P13, i13, d13, rfl, lc13, hB, J13⟩
    clear pD1 qD1 rD1 uD1 vD1 xD1 pD2 qD2 rD2 uD2 vD2 xD2
    have lw89 : w87.heap.size ≤ w89.heap.size := hB.size
    replace h1 := h1.below hB (by omega)
    replace h2 := h2.below hB (by omega)
    replace t1 := t1.below hB (by omega)
    replace t2 := t2.below hB (by omega)
    replace J7 := J7.below hB (by omega)
    replace J9 := J9.below hB (by omega)
    replace J11 := J11.below hB (by omega)
    replace D1 := (hB.block _ (by omega)).trans D1
    replace D2 := (hB.block _ (by omega)).trans D2
    replace D5 := (hB.block _ (by omega)).trans D5
    replace D6 := (hB.block _ (by omega)).trans D6
    replace E7 := (hB.block _ (by omega)).trans E7
    replace E9 := (hB.block _ (by omega)).trans E9
    replace E11 := (hB.block _ (by omega)).trans E11
    have c90 := c88.trans (hB.mono (by omega))
    replace tT := tT.below hB tT.lt
    clear hB
    have hB := (Below.refl w89.heap.size w89).alloc (Nat.le_refl _) (.cells #[.bool rp.neg, .slice P13 i13 d13, .int .i64 rp.e] 24)
    have E13 := heap_alloc_last w89 (.cells #[.bool rp.neg, .slice P13 i13 d13, .int .i64 rp.e] 24)
    have mw91 : w89.heap.size < (w89.alloc (.cells #[.bool rp.neg, .slice P13 i13 d13, .int .i64 rp.e] 24)).heap.size := by simp
    generalize hw : w89.alloc (.cells #[.bool rp.neg, .slice P13 i13 d13, .int .i64 rp.e] 24) = w91 at *
    have lw91 : w89.heap.size ≤ w91.heap.size := hB.size
    replace h1 := h1.below hB (by omega)
    replace h2 := h2.below hB (by omega)
    replace t1 := t1.below hB (by omega)
    replace t2 := t2.below hB (by omega)
    replace J7 := J7.below hB (by omega)
    replace J9 := J9.below hB (by omega)
    replace J11 := J11.below hB (by omega)
    replace J13 := J13.below hB (by omega)
    replace D1 := (hB.block _ (by omega)).trans D1
    replace D2 := (hB.block _ (by omega)).trans D2
    replace D5 := (hB.block _ (by omega)).trans D5
    replace D6 := (hB.block _ (by omega)).trans D6
    replace E7 := (hB.block _ (by omega)).trans E7
    replace E9 := (hB.block _ (by omega)).trans E9
    replace E11 := (hB.block _ (by omega)).trans E11
    have c92 := c90.trans (hB.mono (by omega))
    replace tT := tT.below hB tT.lt
    clear hB
    obtain ⟨⟨pD5, qD5, rD5⟩, uD5, vD5, xD5⟩ := boxD D5
    go_wp2_with fail
    refine (Half_all w91 s1 T5 n1 m5 xs1 e1 (t1.more (Nat.zero_le _) (by omega)) tT rs ks HS.out).mono ?_
    rintro e' w93 ⟨P15, i15, d15, rfl, lc15, hB, J15⟩
    clear pD5 qD5 rD5 uD5 vD5 xD5
    have lw93 : w91.heap.size ≤ w93.heap.size := hB.size
    replace h1 := h1.below hB (by omega)
    replace h2 := h2.below hB (by omega)
    replace t1 := t1.below hB (by omega)
    replace t2 := t2.below hB (by omega)
    replace J7 := J7.below hB (by omega)
    replace J9 := J9.below hB (by omega)
    replace J11 := J11.below hB (by omega)
    replace J13 := J13.below hB (by omega)
    replace D1 := (hB.block _ (by omega)).trans D1
    replace D2 := (hB.block _ (by omega)).trans D2
    replace D5 := (hB.block _ (by omega)).trans D5
    replace D6 := (hB.block _ (by omega)).trans D6
    replace E7 := (hB.block _ (by omega)).trans E7
    replace E9 := (hB.block _ (by omega)).trans E9
    replace E11 := (hB.block _ (by omega)).trans E11
    replace E13 := (hB.block _ (by omega)).trans E13
    have c94 := c92.trans (hB.mono (by omega))
    replace tT := tT.below hB tT.lt
    clear hB
    have hB := (Below.refl w93.heap.size w93).alloc (Nat.le_refl _) (.cells #[.bool rs.neg, .slice P15 i15 d15, .int .i64 rs.e] 24)
    have E15 := heap_alloc_last w93 (.cells #[.bool rs.neg, .slice P15 i15 d15, .int .i64 rs.e] 24)
    have mw95 : w93.heap.size < (w93.alloc (.cells #[.bool rs.neg, .slice P15 i15 d15, .int .i64 rs.e] 24)).heap.size := by simp
    generalize hw : w93.alloc (.cells #[.bool rs.neg, .slice P15 i15 d15, .int .i64 rs.e] 24) = w95 at *
    have lw95 : w93.heap.size ≤ w95.heap.size := hB.size
    replace h1 := h1.below hB (by omega)
    replace h2 := h2.below hB (by omega)
    replace t1 := t1.below hB (by omega)
    replace t2 := t2.below hB (by omega)
    replace J7 := J7.below hB (by omega)
    replace J9 := J9.below hB (by omega)
    replace J11 := J11.below hB (by omega)
    replace J13 := J13.below hB (by omega)
    replace J15 := J15.below hB (by omega)
    replace D1 := (hB.block _ (by omega)).trans D1
    replace D2 := (hB.block _ (by omega)).trans D2
    replace D5 := (hB.block _ (by omega)).trans D5
    replace D6 := (hB.block _ (by omega)).trans D6
    replace E7 := (hB.block _ (by omega)).trans E7
    replace E9 := (hB.block _ (by omega)).trans E9
    replace E11 := (hB.block _ (by omega)).trans E11
    replace E13 := (hB.block _ (by omega)).trans E13
    have c96 := c94.trans (hB.mono (by omega))
    replace tT := tT.below hB tT.lt
    clear hB
    obtain ⟨⟨pD1, qD1, rD1⟩, uD1, vD1, xD1⟩ := boxD D1
    go_wp2_with fail
    refine (rHalf_all w95 s1 A1 n1 c1 xs1 e1 (h1.more (Nat.zero_le _) (by omega)) rs ks HS.out).mono ?_
    rintro e' w97 ⟨P17, i17, d17, rfl, lc17, hB, J17⟩
    clear pD1 qD1 rD1 uD1 vD1 xD1
    have lw97 : w95.heap.size ≤ w97.heap.size := hB.size
    replace h1 := h1.below hB (by omega)
    replace h2 := h2.below hB (by omega)
    replace t1 := t1.below hB (by omega)
    replace t2 := t2.below hB (by omega)
    replace J7 := J7.below hB (by omega)
    replace J9 := J9.below hB (by omega)
    replace J11 := J11.below hB (by omega)
    replace J13 := J13.below hB (by omega)
    replace J15 := J15.below hB (by omega)
    replace D1 := (hB.block _ (by omega)).trans D1
    replace D2 := (hB.block _ (by omega)).trans D2
    replace D5 := (hB.block _ (by omega)).trans D5
    replace D6 := (hB.block _ (by omega)).trans D6
    replace E7 := (hB.block _ (by omega)).trans E7
    replace E9 := (hB.block _ (by omega)).trans E9
    replace E11 := (hB.block _ (by omega)).trans E11
    replace E13 := (hB.block _ (by omega)).trans E13
    replace E15 := (hB.block _ (by omega)).trans E15
    have c98 := c96.trans (hB.mono (by omega))
    replace tT := tT.below hB tT.lt
    clear hB
    have hB := (Below.refl w97.heap.size w97).alloc (Nat.le_refl _) (.cells #[.bool rs.neg, .slice P17 i17 d17, .int .i64 rs.e] 24)
    have E17 := heap_alloc_last w97 (.cells #[.bool rs.neg, .slice P17 i17 d17, .int .i64 rs.e] 24)
    have mw99 : w97.heap.size < (w97.alloc (.cells #[.bool rs.neg, .slice P17 i17 d17, .int .i64 rs.e] 24)).heap.size := by simp
    generalize hw : w97.alloc (.cells #[.bool rs.neg, .slice P17 i17 d17, .int .i64 rs.e] 24) = w99 at *
    have lw99 : w97.heap.size ≤ w99.heap.size := hB.size
    replace h1 := h1.below hB (by omega)
    replace h2 := h2.below hB (by omega)
    replace t1 := t1.below hB (by omega)
    replace t2 := t2.below hB (by omega)
    replace J7 := J7.below hB (by omega)
    replace J9 := J9.below hB (by omega)
    replace J11 := J11.below hB (by omega)
    replace J13 := J13.below hB (by omega)
    replace J15 := J15.below hB (by omega)
    replace J17 := J17.below hB (by omega)
    replace D1 := (hB.block _ (by omega)).trans D1
    replace D2 := (hB.block _ (by omega)).trans D2
    replace D5 := (hB.block _ (by omega)).trans D5
    replace D6 := (hB.block _ (by omega)).trans D6
    replace E7 := (hB.block _ (by omega)).trans E7
    replace E9 := (hB.block _ (by omega)).trans E9
    replace E11 := (hB.block _ (by omega)).trans E11
    replace E13 := (hB.block _ (by omega)).trans E13
    replace E15 := (hB.block _ (by omega)).trans E15
    have c100 := c98.trans (hB.mono (by omega))
    replace tT := tT.below hB tT.lt
    clear hB
    obtain ⟨⟨pE7, qE7, rE7⟩, uE7, vE7, xE7⟩ := boxD E7
    obtain ⟨⟨pE9, qE9, rE9⟩, uE9, vE9, xE9⟩ := boxD E9
    go_wp2_with fail
    refine (Pa.rSame_any w99 _ _ _ _ _ _ _ _ _ _ _ _ (J7.more (Nat.zero_le _) (by omega)) (J9.more (Nat.zero_le _) (by omega)) true (same_can rx)).mono ?_
    rintro e' w101 ⟨rfl, hB⟩
    clear pE7 qE7 rE7 uE7 vE7 xE7 pE9 qE9 rE9 uE9 vE9 xE9
    have lw101 : w99.heap.size ≤ w101.heap.size := hB.size
    replace h1 := h1.below hB (by omega)
    replace h2 := h2.below hB (by omega)
    replace t1 := t1.below hB (by omega)
    replace t2 := t2.below hB (by omega)
    replace J7 := J7.below hB (by omega)
    replace J9 := J9.below hB (by omega)
    replace J11 := J11.below hB (by omega)
    replace J13 := J13.below hB (by omega)
    replace J15 := J15.below hB (by omega)
    replace J17 := J17.below hB (by omega)
    replace D1 := (hB.block _ (by omega)).trans D1
    replace D2 := (hB.block _ (by omega)).trans D2
    replace D5 := (hB.block _ (by omega)).trans D5
    replace D6 := (hB.block _ (by omega)).trans D6
    replace E7 := (hB.block _ (by omega)).trans E7
    replace E9 := (hB.block _ (by omega)).trans E9
    replace E11 := (hB.block _ (by omega)).trans E11
    replace E13 := (hB.block _ (by omega)).trans E13
    replace E15 := (hB.block _ (by omega)).trans E15
    replace E17 := (hB.block _ (by omega)).trans E17
    have c102 := c100.trans (hB.mono (by omega))
    replace tT := tT.below hB tT.lt
    clear hB
    obtain ⟨⟨pE11, qE11, rE11⟩, uE11, vE11, xE11⟩ := boxD E11
    obtain ⟨⟨pE13, qE13, rE13⟩, uE13, vE13, xE13⟩ := boxD E13
    go_wp2_with fail
    refine (Pa.rSame_any w101 _ _ _ _ _ _ _ _ _ _ _ _ (J11.more (Nat.zero_le _) (by omega)) (J13.more (Nat.zero_le _) (by omega)) true (same_can rp)).mono ?_
    rintro e' w103 ⟨rfl, hB⟩
    clear pE11 qE11 rE11 uE11 vE11 xE11 pE13 qE13 rE13 uE13 vE13 xE13
    have lw103 : w101.heap.size ≤ w103.heap.size := hB.size
    replace h1 := h1.below hB (by omega)
    replace h2 := h2.below hB (by omega)
    replace t1 := t1.below hB (by omega)
    replace t2 := t2.below hB (by omega)
    replace J7 := J7.below hB (by omega)
    replace J9 := J9.below hB (by omega)
    replace J11 := J11.below hB (by omega)
    replace J13 := J13.below hB (by omega)
    replace J15 := J15.below hB (by omega)
    replace J17 := J17.below hB (by omega)
    replace D1 := (hB.block _ (by omega)).trans D1
    replace D2 := (hB.block _ (by omega)).trans D2
    replace D5 := (hB.block _ (by omega)).trans D5
    replace D6 := (hB.block _ (by omega)).trans D6
    replace E7 := (hB.block _ (by omega)).trans E7
    replace E9 := (hB.block _ (by omega)).trans E9
    replace E11 := (hB.block _ (by omega)).trans E11
    replace E13 := (hB.block _ (by omega)).trans E13
    replace E15 := (hB.block _ (by omega)).trans E15
    replace E17 := (hB.block _ (by omega)).trans E17
    have c104 := c102.trans (hB.mono (by omega))
    replace tT := tT.below hB tT.lt
    clear hB
    obtain ⟨⟨pE15, qE15, rE15⟩, uE15, vE15, xE15⟩ := boxD E15
    obtain ⟨⟨pE17, qE17, rE17⟩, uE17, vE17, xE17⟩ := boxD E17
    go_wp2_with fail
    refine (Pa.rSame_any w103 _ _ _ _ _ _ _ _ _ _ _ _ (J15.more (Nat.zero_le _) (by omega)) (J17.more (Nat.zero_le _) (by omega)) true (same_can rs)).mono ?_
    rintro e' w105 ⟨rfl, hB⟩
    clear pE15 qE15 rE15 uE15 vE15 xE15 pE17 qE17 rE17 uE17 vE17 xE17
    have lw105 : w103.heap.size ≤ w105.heap.size := hB.size
    replace h1 := h1.below hB (by omega)
    replace h2 := h2.below hB (by omega)
    replace t1 := t1.below hB (by omega)
    replace t2 := t2.below hB (by omega)
    replace J7 := J7.below hB (by omega)
    replace J9 := J9.below hB (by omega)
    replace J11 := J11.below hB (by omega)
    replace J13 := J13.below hB (by omega)
    replace J15 := J15.below hB (by omega)
    replace J17 := J17.below hB (by omega)
    replace D1 := (hB.block _ (by omega)).trans D1
    replace D2 := (hB.block _ (by omega)).trans D2
    replace D5 := (hB.block _ (by omega)).trans D5
    replace D6 := (hB.block _ (by omega)).trans D6
    replace E7 := (hB.block _ (by omega)).trans E7
    replace E9 := (hB.block _ (by omega)).trans E9
    replace E11 := (hB.block _ (by omega)).trans E11
    replace E13 := (hB.block _ (by omega)).trans E13
    replace E15 := (hB.block _ (by omega)).trans E15
    replace E17 := (hB.block _ (by omega)).trans E17
    have c106 := c104.trans (hB.mono (by omega))
    replace tT := tT.below hB tT.lt
    clear hB
    clear tT
    clear J9 E9
    clear J13 E13
    clear J17 E17
    obtain ⟨⟨pE7, qE7, rE7⟩, uE7, vE7, xE7⟩ := boxD E7
    go_wp2_with fail
    have KJ := J7
    refine (spoilD_any w105 rx.neg P7 i7 d7 _ rx.e _ _ KJ (canon_big KJ MX.out) (by omega) (by omega)).mono ?_
    rintro e' w107 ⟨rfl, hB, hF⟩
    clear pE7 qE7 rE7 uE7 vE7 xE7
    clear KJ J7 E7
    have lw107 : w105.heap.size ≤ w107.heap.size := hB.size
    replace h1 := ints_spoilt h1 hB hF (by omega) (by omega)
    replace h2 := ints_spoilt h2 hB hF (by omega) (by omega)
    replace t1 := ints_spoilt t1 hB hF (by omega) (by omega)
    replace t2 := ints_spoilt t2 hB hF (by omega) (by omega)
    replace J11 := ints_spoilt J11 hB hF (by omega) (by omega)
    replace J15 := ints_spoilt J15 hB hF (by omega) (by omega)
    replace D1 := box_spoilt D1 hB hF (by omega)
    replace D2 := box_spoilt D2 hB hF (by omega)
    replace D5 := box_spoilt D5 hB hF (by omega)
    replace D6 := box_spoilt D6 hB hF (by omega)
    replace E11 := box_spoilt E11 hB hF (by omega)
    replace E15 := box_spoilt E15 hB hF (by omega)
    have c108 := c106.trans (hB.mono (by omega))
    clear hB hF
    obtain ⟨⟨pE11, qE11, rE11⟩, uE11, vE11, xE11⟩ := boxD E11
    go_wp2_with fail
    have KJ := J11
    refine (spoilD_any w107 rp.neg P11 i11 d11 _ rp.e _ _ KJ (canon_big KJ MP.out) (by omega) (by omega)).mono ?_
    rintro e' w109 ⟨rfl, hB, hF⟩
    clear pE11 qE11 rE11 uE11 vE11 xE11
    clear KJ J11 E11
    have lw109 : w107.heap.size ≤ w109.heap.size := hB.size
    replace h1 := ints_spoilt h1 hB hF (by omega) (by omega)
    replace h2 := ints_spoilt h2 hB hF (by omega) (by omega)
    replace t1 := ints_spoilt t1 hB hF (by omega) (by omega)
    replace t2 := ints_spoilt t2 hB hF (by omega) (by omega)
    replace J15 := ints_spoilt J15 hB hF (by omega) (by omega)
    replace D1 := box_spoilt D1 hB hF (by omega)
    replace D2 := box_spoilt D2 hB hF (by omega)
    replace D5 := box_spoilt D5 hB hF (by omega)
    replace D6 := box_spoilt D6 hB hF (by omega)
    replace E15 := box_spoilt E15 hB hF (by omega)
    have c110 := c108.trans (hB.mono (by omega))
    clear hB hF
    obtain ⟨⟨pE15, qE15, rE15⟩, uE15, vE15, xE15⟩ := boxD E15
    go_wp2_with fail
    have KJ := J15
    refine (spoilD_any w109 rs.neg P15 i15 d15 _ rs.e _ _ KJ (canon_big KJ MS.out) (by omega) (by omega)).mono ?_
    rintro e' w111 ⟨rfl, hB, hF⟩
    clear pE15 qE15 rE15 uE15 vE15 xE15
    clear KJ J15 E15
    have lw111 : w109.heap.size ≤ w111.heap.size := hB.size
    replace h1 := ints_spoilt h1 hB hF (by omega) (by omega)
    replace h2 := ints_spoilt h2 hB hF (by omega) (by omega)
    replace t1 := ints_spoilt t1 hB hF (by omega) (by omega)
    replace t2 := ints_spoilt t2 hB hF (by omega) (by omega)
    replace D1 := box_spoilt D1 hB hF (by omega)
    replace D2 := box_spoilt D2 hB hF (by omega)
    replace D5 := box_spoilt D5 hB hF (by omega)
    replace D6 := box_spoilt D6 hB hF (by omega)
    have c112 := c110.trans (hB.mono (by omega))
    clear hB hF
    obtain ⟨⟨pD5, qD5, rD5⟩, uD5, vD5, xD5⟩ := boxD D5
    obtain ⟨⟨pD1, qD1, rD1⟩, uD1, vD1, xD1⟩ := boxD D1
    go_wp2_with fail
    refine (Pa.rSame_any w111 _ _ _ _ _ _ _ _ _ _ _ _ (t1.more (Nat.zero_le _) (by omega)) (h1.more (Nat.zero_le _) (by omega)) true (Pa.Dy.same_refl _)).mono ?_
    rintro e' w113 ⟨rfl, hB⟩
    clear pD5 qD5 rD5 uD5 vD5 xD5 pD1 qD1 rD1 uD1 vD1 xD1
    have lw113 : w111.heap.size ≤ w113.heap.size := hB.size
    replace h1 := h1.below hB (by omega)
    replace h2 := h2.below hB (by omega)
    replace t1 := t1.below hB (by omega)
    replace t2 := t2.below hB (by omega)
    replace D1 := (hB.block _ (by omega)).trans D1
    replace D2 := (hB.block _ (by omega)).trans D2
    replace D5 := (hB.block _ (by omega)).trans D5
    replace D6 := (hB.block _ (by omega)).trans D6
    have c114 := c112.trans (hB.mono (by omega))
    clear hB
    obtain ⟨⟨pD6, qD6, rD6⟩, uD6, vD6, xD6⟩ := boxD D6
    obtain ⟨⟨pD2, qD2, rD2⟩, uD2, vD2, xD2⟩ := boxD D2
    go_wp2_with fail
    refine (Pa.rSame_any w113 _ _ _ _ _ _ _ _ _ _ _ _ (t2.more (Nat.zero_le _) (by omega)) (h2.more (Nat.zero_le _) (by omega)) true (Pa.Dy.same_refl _)).mono ?_
    rintro e' w115 ⟨rfl, hB⟩
    clear pD6 qD6 rD6 uD6 vD6 xD6 pD2 qD2 rD2 uD2 vD2 xD2
    have lw115 : w113.heap.size ≤ w115.heap.size := hB.size
    replace h1 := h1.below hB (by omega)
    replace h2 := h2.below hB (by omega)
    replace t1 := t1.below hB (by omega)
    replace t2 := t2.below hB (by omega)
    replace D1 := (hB.block _ (by omega)).trans D1
    replace D2 := (hB.block _ (by omega)).trans D2
    replace D5 := (hB.block _ (by omega)).trans D5
    replace D6 := (hB.block _ (by omega)).trans D6
    have c116 := c114.trans (hB.mono (by omega))
    clear hB
    go_wp2
    go_ret
    exact ⟨rfl, c116⟩
end Dy
end Go.Proofs.YtlbkepiflhchdaaDoor
