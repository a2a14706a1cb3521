/- query: parts: a walk (printed by a program of mine). -/
import Derived.Test.YtmbppgjhdcmckaaGreatDoorQuW2
namespace Go.Proofs.YtmbppgjhdcmckaaGreatDoor
open Go.RowKit
namespace Ma
open Dp Dy
/-- What parts tells: a quotient, down and up. -/
noncomputable def partsX (a b : Dv) (k : Int) : Dn × Dn × Int :=
  if aboveV b = false then (Dn.zero, Dn.zero, 6) else
  if (toX a.s a.xs a.e b.s b.xs b.e k a.s).2 ≠ 0 then (Dn.zero, Dn.zero, (toX a.s a.xs a.e b.s b.xs b.e k a.s).2) else
  if (toX a.s a.xs a.e b.s b.xs b.e k (!a.s)).2 ≠ 0 then (Dn.zero, Dn.zero, (toX a.s a.xs a.e b.s b.xs b.e k (!a.s)).2) else
  ((toX a.s a.xs a.e b.s b.xs b.e k a.s).1, (toX a.s a.xs a.e b.s b.xs b.e k (!a.s)).1, 0)
set_option maxHeartbeats 12800000 in
set_option maxRecDepth 100000 in
/-- query.parts' own function. -/
theorem parts1_any (w : World) (ga gb gk : Nat) (hga : ga < w.heap.size) (hgb : gb < w.heap.size) (hgk : gk < w.heap.size) (a b : Dv) (k : Int) (hA : QBox w ga a) (hB : QBox w gb b) (hK : w.heap[gk]? = some (.cells #[.int .i64 k] 3 (0, 0)))
    (hRa : DRow w 0 w.heap.size a) (hRb : DRow w 0 w.heap.size b) (lo hi : Dn) (code : Int) (h : partsX a b k = (lo, hi, code)) :
    Calls Tryz.prog 74 #[.pointer (some ⟨gb, 0, none⟩), .pointer (some ⟨ga, 0, none⟩), .pointer (some ⟨gk, 0, none⟩)] w (ToldR w lo hi code) := by
  obtain ⟨w1, hw, bT, j1, S1⟩ := alloc_zt w
  obtain ⟨v, hv⟩ : ∃ v, aboveV b = v := ⟨_, rfl⟩
  have HA := Lib.hid hv
  obtain ⟨r1, k1, hr1⟩ : ∃ r k', toX a.s a.xs a.e b.s b.xs b.e k a.s = (r, k') := ⟨_, _, rfl⟩
  obtain ⟨r2, k2, hr2⟩ : ∃ r k', toX a.s a.xs a.e b.s b.xs b.e k (!a.s) = (r, k') := ⟨_, _, rfl⟩
  unfold partsX at h
  rw [hv, hr1, hr2] at h
  have HR1 := Lib.hid hr1
  have HR2 := Lib.hid hr2
  have HH := Lib.hid h
  clear hv hr1 hr2 h
  go_enter Tryz.func74, Tryz.ntmps74
  have rB : w1.rangeAt (gb) 0 [.bool b.s, .slice b.A b.n b.c, .int .i64 b.e] := QBox.range (x := b) (box_later hB j1 hgb)
  go_wp2_with (first | (refine wpList_load_mid rfl 24 (.tmp 0) rfl (gb) 0 rfl [.bool b.s, .slice b.A b.n b.c, .int .i64 b.e] _ rB Tryz.underlying24 rfl (by kernel_rfl) ?_))
  clear rB
  refine (above_any w1 b v HA.out).mono ?_
  rintro e' v1 ⟨rfl, j2⟩
  try clear hw
  cases v
  · skip
    have HH := HH.out
    rw [if_pos rfl] at HH
    injection HH with h1 h2
    injection h2 with h2 h3
    subst h1 h2 h3
    clear HA HR1 HR2
    have bz_ : TBox v1 w.heap.size ZDv ZDv := (box_later bT j2 S1)
    obtain ⟨U_, hU_, bU_, hb_, hf_, l5_, l5'_⟩ := told_into bz_ ZDv ZDv
    have th_ := TBox.there bz_
    replace hU_ : v1.setCells (w.heap.size) 0 (#[.bool false, .slice none 0 0, .int .i64 0, .bool false, .slice none 0 0, .int .i64 0] : Array Value).toList = U_ := hU_
    have HU_ := Lib.hid hU_
    clear hU_
    have fin_ := hb_ _ _ (later j1 j2) (by omega)
    go_wp2_with (first | (refine wpList_store_mid rfl 32 (.tmp 3) (.tmp 8) rfl w.heap.size 0 #[.bool false, .slice none 0 0, .int .i64 0, .bool false, .slice none 0 0, .int .i64 0] rfl rfl th_ (by kernel_rfl) (all_oneCell_toArray (cells6D_one ZDv ZDv)) ?_; rw [HU_.out]))
    exact bodyPost_ret (results_row_slot Tryz.results74 _ _ w.heap.size 32 #[.bool false, .slice none 0 0, .int .i64 0, .bool false, .slice none 0 0, .int .i64 0] (0, 0) _ (.int .i64 6) rfl rfl bU_ Tryz.underlying32 rfl (by kernel_rfl)) rfl (told_zero _ _ _ fin_)
  · skip
    replace HH := Lib.hid (show (if k1 ≠ 0 then (Dn.zero, Dn.zero, k1) else if k2 ≠ 0 then (Dn.zero, Dn.zero, k2) else (r1, r2, (0 : Int))) = (lo, hi, code) by have := HH.out; rw [if_neg (by decide)] at this; exact this)
    clear HA
    have rA1 : v1.rangeAt (ga) 0 [.bool a.s, .slice a.A a.n a.c, .int .i64 a.e] := QBox.range (x := a) (box_later hA (later j1 j2) hga)
    have rB1 : v1.rangeAt (gb) 0 [.bool b.s, .slice b.A b.n b.c, .int .i64 b.e] := QBox.range (x := b) (box_later hB (later j1 j2) hgb)
    have kk1 := cell_of_row v1 gk 0 _ _ _ (box_later hK (later j1 j2) hgk)
    replace kk1 : v1.cell? ⟨gk, 0, none⟩ = some (.int .i64 k) := kk1
    go_wp2_with (first
      | (refine wpList_load_mid rfl 24 (.tmp 1) rfl (ga) 0 rfl [.bool a.s, .slice a.A a.n a.c, .int .i64 a.e] _ rA1 Tryz.underlying24 rfl (by kernel_rfl) ?_)
      | (refine wpList_load_mid rfl 24 (.tmp 0) rfl (gb) 0 rfl [.bool b.s, .slice b.A b.n b.c, .int .i64 b.e] _ rB1 Tryz.underlying24 rfl (by kernel_rfl) ?_))
    refine (Floor_all v1 a.s b.s a.A b.A a.n a.c b.n b.c a.xs b.xs a.e b.e (ints_on hRa (later j1 j2)) (ints_on hRb (later j1 j2)) k r1 k1 HR1.out).mono ?_
    rintro e' v3 ⟨A1, n1, c1, rfl, _, j4, I1⟩
    try clear hw
    clear rA1 rB1 kk1
    have sa1 := Below.size j2
    have sb1 := Below.size j4
    have hT1 : TBox v3 w.heap.size ZDv ZDv := (box_later bT (later j2 j4) S1)
    obtain ⟨U1, hU1, bV1, hb1, hf1, la1, lb1⟩ := low_into hT1 ⟨r1.neg, A1, n1, c1, r1.e, canon 4294967296 r1.m⟩
    have th1 := TBox.thereL hT1
    replace hU1 : v3.setCells w.heap.size 0 (#[.bool r1.neg, .slice A1 n1 c1, .int .i64 r1.e] : Array Value).toList = U1 := hU1
    have HU1 := Lib.hid hU1
    clear hU1
    obtain ⟨x, hx1⟩ : ∃ x : Dv, x = ⟨r1.neg, A1, n1, c1, r1.e, canon 4294967296 r1.m⟩ := ⟨_, rfl⟩
    have ix1 : Is r1 x := by rw [hx1]; exact ⟨rfl, rfl, rfl⟩
    obtain ⟨lo1, hlo1⟩ : ∃ n, v1.heap.size = n := ⟨_, rfl⟩
    have lc1 : w.heap.size < lo1 := by omega
    have rx1 : DRow U1 lo1 U1.heap.size x := by rw [hx1, ← hlo1]; exact (intsR I1 (fun b h1 h2 => hf1 b (by omega))).more (Nat.le_refl _) lb1
    have bb1 := hb1 _ _ (later j1 (later j2 j4)) (by omega)
    have bX : TBox U1 w.heap.size x ZDv := by rw [hx1]; exact bV1
    have la : lo1 ≤ U1.heap.size := by omega
    have kA1 : QBox U1 ga a := (hf1 _ (by omega)).trans (box_later hA (later j1 (later j2 j4)) hga)
    have kB1 : QBox U1 gb b := (hf1 _ (by omega)).trans (box_later hB (later j1 (later j2 j4)) hgb)
    have kK1 : U1.heap[gk]? = some (.cells #[.int .i64 k] 3 (0, 0)) := (hf1 _ (by omega)).trans (box_later hK (later j1 (later j2 j4)) hgk)
    have kRa1 : DRow U1 0 U1.heap.size a := ints_on hRa (hb1 _ _ (later j1 (later j2 j4)) (Nat.le_refl _))
    have kRb1 : DRow U1 0 U1.heap.size b := ints_on hRb (hb1 _ _ (later j1 (later j2 j4)) (Nat.le_refl _))
    clear hx1 bV1 hlo1 hb1
    replace hA := kA1
    replace hB := kB1
    replace hK := kK1
    replace hRa := kRa1
    replace hRb := kRb1
    replace bT := bX
    clear kA1 kB1 kK1 kRa1 kRb1 bX
    by_cases e1 : k1 = 0
    rotate_left
    · skip
      have HH := HH.out
      rw [if_pos e1] at HH
      injection HH with h1 h2
      injection h2 with h2 h3
      subst h1 h2 h3
      clear HR1 HR2
      have n0 : (k1 != 0) = true := by simpa using e1
      clear e1
      obtain ⟨U_, hU_, bU_, hb_, hf_, l5_, l5'_⟩ := told_into (show TBox U1 w.heap.size x ZDv from bT) ZDv ZDv
      have th_ := TBox.there (show TBox U1 w.heap.size x ZDv from bT)
      replace hU_ : U1.setCells w.heap.size 0 (#[.bool false, .slice none 0 0, .int .i64 0, .bool false, .slice none 0 0, .int .i64 0] : Array Value).toList = U_ := hU_
      have HU_ := Lib.hid hU_
      clear hU_
      have fin_ := hb_ _ _ bb1 (by omega)
      go_wp2_with (first
        | (refine wpList_store_mid rfl 24 (.tmp 16) (.tmp 14) rfl w.heap.size 0 #[.bool r1.neg, .slice A1 n1 c1, .int .i64 r1.e] rfl rfl th1 (by kernel_rfl) (all_oneCell_toArray (cells3D_one ⟨r1.neg, A1, n1, c1, r1.e, canon 4294967296 r1.m⟩)) ?_; rw [HU1.out])
        | (refine wpList_store_mid rfl 32 (.tmp 3) (.tmp 19) rfl w.heap.size 0 #[.bool false, .slice none 0 0, .int .i64 0, .bool false, .slice none 0 0, .int .i64 0] rfl rfl th_ (by kernel_rfl) (all_oneCell_toArray (cells6D_one ZDv ZDv)) ?_; rw [HU_.out]))
      exact bodyPost_ret (results_row_slot Tryz.results74 _ _ w.heap.size 32 #[.bool false, .slice none 0 0, .int .i64 0, .bool false, .slice none 0 0, .int .i64 0] (0, 0) _ (.int .i64 k1) rfl rfl bU_ Tryz.underlying32 rfl (by kernel_rfl)) rfl (told_zero _ _ _ fin_)
    · skip
      replace HH := Lib.hid (show (if k2 ≠ 0 then (Dn.zero, Dn.zero, k2) else (r1, r2, (0 : Int))) = (lo, hi, code) by have := HH.out; rw [if_neg (by omega)] at this; exact this)
      subst e1
      have rA2 : U1.rangeAt (ga) 0 [.bool a.s, .slice a.A a.n a.c, .int .i64 a.e] := QBox.range (x := a) hA
      have rB2 : U1.rangeAt (gb) 0 [.bool b.s, .slice b.A b.n b.c, .int .i64 b.e] := QBox.range (x := b) hB
      have kk2 := cell_of_row U1 gk 0 _ _ _ hK
      replace kk2 : U1.cell? ⟨gk, 0, none⟩ = some (.int .i64 k) := kk2
      try skip
      go_wp2_with (first
        | (refine wpList_load_mid rfl 24 (.tmp 1) rfl (ga) 0 rfl [.bool a.s, .slice a.A a.n a.c, .int .i64 a.e] _ rA2 Tryz.underlying24 rfl (by kernel_rfl) ?_)
        | (refine wpList_load_mid rfl 24 (.tmp 0) rfl (gb) 0 rfl [.bool b.s, .slice b.A b.n b.c, .int .i64 b.e] _ rB2 Tryz.underlying24 rfl (by kernel_rfl) ?_)
        | (refine wpList_store_mid rfl 24 (.tmp 16) (.tmp 14) rfl w.heap.size 0 #[.bool r1.neg, .slice A1 n1 c1, .int .i64 r1.e] rfl rfl th1 (by kernel_rfl) (all_oneCell_toArray (cells3D_one ⟨r1.neg, A1, n1, c1, r1.e, canon 4294967296 r1.m⟩)) ?_; rw [HU1.out]))
      refine (Ceil_all U1 a.s b.s a.A b.A a.n a.c b.n b.c a.xs b.xs a.e b.e hRa hRb k r2 k2 HR2.out).mono ?_
      rintro e' v5 ⟨A2, n2, c2, rfl, _, j6, I2⟩
      try clear hw
      clear rA2 rB2 kk2
      have sq2 := Below.size j6
      have hT2 : TBox v5 w.heap.size x ZDv := (box_later bT j6 (show w.heap.size < U1.heap.size by omega))
      obtain ⟨U2, hU2, bV2, hb2, hf2, la2, lb2⟩ := high_into hT2 ⟨r2.neg, A2, n2, c2, r2.e, canon 4294967296 r2.m⟩
      have th2 := TBox.thereH hT2
      replace hU2 : v5.setCells w.heap.size 3 (#[.bool r2.neg, .slice A2 n2 c2, .int .i64 r2.e] : Array Value).toList = U2 := hU2
      have HU2 := Lib.hid hU2
      clear hU2
      obtain ⟨y, hx2⟩ : ∃ x : Dv, x = ⟨r2.neg, A2, n2, c2, r2.e, canon 4294967296 r2.m⟩ := ⟨_, rfl⟩
      have ix2 : Is r2 y := by rw [hx2]; exact ⟨rfl, rfl, rfl⟩
      have ry : DRow U2 U1.heap.size U2.heap.size y := by rw [hx2]; exact (intsR I2 (fun b h1 h2 => hf2 b (by omega))).more (Nat.le_refl _) lb2
      have rx : DRow U2 lo1 U1.heap.size x := intsR rx1 (w' := U2) (fun b h1 h2 => (hf2 b (by omega)).trans (j6.block b (by omega)))
      have bX : TBox U2 w.heap.size x y := by rw [hx2]; exact bV2
      have bb2 := hb2 _ _ (later bb1 j6) (by omega)
      clear hx2 bV2 hb2 hT2
      replace bT := bX
      clear bX
      by_cases e2 : k2 = 0
      rotate_left
      · skip
        have HH := HH.out
        rw [if_pos e2] at HH
        injection HH with h1 h2
        injection h2 with h2 h3
        subst h1 h2 h3
        clear HR1 HR2
        have n0 : (k2 != 0) = true := by simpa using e2
        clear e2
        obtain ⟨U_, hU_, bU_, hb_, hf_, l5_, l5'_⟩ := told_into (show TBox U2 w.heap.size x y from bT) ZDv ZDv
        have th_ := TBox.there (show TBox U2 w.heap.size x y from bT)
        replace hU_ : U2.setCells w.heap.size 0 (#[.bool false, .slice none 0 0, .int .i64 0, .bool false, .slice none 0 0, .int .i64 0] : Array Value).toList = U_ := hU_
        have HU_ := Lib.hid hU_
        clear hU_
        have fin_ := hb_ _ _ bb2 (by omega)
        go_wp2_with (first
          | (refine wpList_store_mid rfl 24 (.tmp 28) (.tmp 26) rfl w.heap.size 3 #[.bool r2.neg, .slice A2 n2 c2, .int .i64 r2.e] rfl rfl th2 (by kernel_rfl) (all_oneCell_toArray (cells3D_one ⟨r2.neg, A2, n2, c2, r2.e, canon 4294967296 r2.m⟩)) ?_; rw [HU2.out])
          | (refine wpList_store_mid rfl 32 (.tmp 3) (.tmp 31) rfl w.heap.size 0 #[.bool false, .slice none 0 0, .int .i64 0, .bool false, .slice none 0 0, .int .i64 0] rfl rfl th_ (by kernel_rfl) (all_oneCell_toArray (cells6D_one ZDv ZDv)) ?_; rw [HU_.out]))
        exact bodyPost_ret (results_row_slot Tryz.results74 _ _ w.heap.size 32 #[.bool false, .slice none 0 0, .int .i64 0, .bool false, .slice none 0 0, .int .i64 0] (0, 0) _ (.int .i64 k2) rfl rfl bU_ Tryz.underlying32 rfl (by kernel_rfl)) rfl (told_zero _ _ _ fin_)
      · skip
        have HH := HH.out
        rw [if_neg (by omega)] at HH
        injection HH with h1 h2
        injection h2 with h2 h3
        subst h1 h2 h3
        clear HR1 HR2
        subst e2
        have rxy := TBox.range bT
        obtain ⟨U3, hU3, bF, hb3, hf3, l8_, l8'_⟩ := told_into bT x y
        have th3 := TBox.there bT
        replace hU3 : U2.setCells w.heap.size 0 (#[.bool x.s, .slice x.A x.n x.c, .int .i64 x.e, .bool y.s, .slice y.A y.n y.c, .int .i64 y.e] : Array Value).toList = U3 := hU3
        have HU3 := Lib.hid hU3
        clear hU3
        go_wp2_with (first
          | (refine wpList_store_mid rfl 24 (.tmp 28) (.tmp 26) rfl w.heap.size 3 #[.bool r2.neg, .slice A2 n2 c2, .int .i64 r2.e] rfl rfl th2 (by kernel_rfl) (all_oneCell_toArray (cells3D_one ⟨r2.neg, A2, n2, c2, r2.e, canon 4294967296 r2.m⟩)) ?_; rw [HU2.out])
          | (refine wpList_load_mid rfl 32 (.tmp 3) rfl w.heap.size 0 rfl [.bool x.s, .slice x.A x.n x.c, .int .i64 x.e, .bool y.s, .slice y.A y.n y.c, .int .i64 y.e] _ rxy Tryz.underlying32 rfl (by kernel_rfl) ?_)
          | (refine wpList_store_mid rfl 32 (.tmp 3) (.tmp 33) rfl w.heap.size 0 #[.bool x.s, .slice x.A x.n x.c, .int .i64 x.e, .bool y.s, .slice y.A y.n y.c, .int .i64 y.e] rfl rfl th3 (by kernel_rfl) (all_oneCell_toArray (cells6D_one x y)) ?_; rw [HU3.out]))
        have fin := hb3 _ _ bb2 (by omega)
        have rx4 : DRow U3 w.heap.size U1.heap.size x := (intsR rx (w' := U3) (fun b h1 h2 => hf3 b (by omega))).more (by omega) (Nat.le_refl _)
        exact bodyPost_ret (results_row_slot Tryz.results74 _ _ w.heap.size 32 #[.bool x.s, .slice x.A x.n x.c, .int .i64 x.e, .bool y.s, .slice y.A y.n y.c, .int .i64 y.e] (0, 0) _ (.int .i64 0) rfl rfl bF Tryz.underlying32 rfl (by kernel_rfl)) rfl ⟨x, y, U1.heap.size, rfl, ix1, ix2, fin, by omega, by omega, rx4, (intsR ry (fun b h1 h2 => hf3 b (by omega))).more (Nat.le_refl _) (by omega)⟩
end Ma
end Go.Proofs.YtmbppgjhdcmckaaGreatDoor
