/- query: ends, guess: walks (printed by a program of mine). -/
import Derived.Test.YtmbppgjhdcmckaaGreatDoorQuW2
namespace Go.Proofs.YtmbppgjhdcmckaaGreatDoor
open Go.RowKit
namespace Ma
open Dp Dy
theorem is_half {r : Dn} {d : Dv} (h : Is r d) (hr : r.May) : halfX d.s d.xs d.e = halfD r := by
  unfold halfX
  rw [if_pos (show MayD d.s d.xs d.e from h.may hr), h.1, h.2.1, h.2.2, dn_of]
/-- A quarter of a whole number. -/
def quarterD (z : Int) : Dn := (halfD (halfD (whole z)).1).1
/-- What guess tells. -/
def guessX (xs : List Int) : Dn × Dn × Int := if xs.length = 0 then (Dn.zero, Dn.zero, 6) else (quarterD (Least.guessS xs), quarterD (Least.guessS xs), 0)
def halves (z : Int) : Nat → Dn
  | 0 => whole z
  | i + 1 => (halfD (halves z i)).1
theorem halves_may {z : Int} (h0 : -9223372036854775808 ≤ z) (h1 : z ≤ 9223372036854775807) : ∀ i, (halves z i).May
  | 0 => whole_may h0 h1
  | _ + 1 => formed_may ..
theorem guessS_bound {xs : List Int} (hc : Least.checkCode xs = 0) (h0 : ∀ x ∈ xs, 0 ≤ x) : 0 ≤ Least.guessS xs ∧ Least.guessS xs ≤ 30064771072 := by
  unfold Least.guessS
  split
  · omega
  · next h8 =>
    have h7 := Least.seventh hc h8 h0
    refine ⟨Int.ediv_nonneg (by omega) (by omega), ?_⟩
    exact Int.ediv_le_self _ (by omega)
set_option maxHeartbeats 12800000 in
set_option maxRecDepth 100000 in
/-- query.ends' own function. -/
theorem ends1_any (w : World) (g : Nat) (hg : g < w.heap.size) (h : Bool) (mn mx : Int) (hE : w.heap[g]? = some (.cells #[.bool h, .int .i64 mn, .int .i64 mx] 28 (0, 0)))
    (hmn : -9223372036854775808 ≤ mn ∧ mn ≤ 9223372036854775807) (hmx : -9223372036854775808 ≤ mx ∧ mx ≤ 9223372036854775807) (lo hi : Dn) (code : Int) (hx : endsX h mn mx = (lo, hi, code)) :
    Calls Tryz.prog 77 #[.pointer (some ⟨g, 0, none⟩)] w (ToldR w lo hi code) := by
  obtain ⟨w1, hw, bT, j1, S1⟩ := alloc_zt w
  have k0 : w1.cell? ⟨g, 0, none⟩ = some (.bool h) := cell_of_row w1 g 0 _ _ _ (box_later hE j1 hg)
  have k1 : w1.cell? ⟨g, 1, none⟩ = some (.int .i64 mn) := cell_of_row w1 g 1 _ _ _ (box_later hE j1 hg)
  have k2 : w1.cell? ⟨g, 2, none⟩ = some (.int .i64 mx) := cell_of_row w1 g 2 _ _ _ (box_later hE j1 hg)
  have HX := Lib.hid hx
  clear hx
  cases h
  · skip
    have hx := HX.out
    unfold endsX at hx
    rw [if_pos rfl] at hx
    injection hx with h1 h2
    injection h2 with h2 h3
    subst h1 h2 h3
    clear HX
    go_enter Tryz.func77, Tryz.ntmps77
    have bz_ : TBox w1 w.heap.size ZDv ZDv := bT
    obtain ⟨U_, hU_, bU_, hb_, hf_, l5_, l5'_⟩ := told_into bz_ ZDv ZDv
    have th_ := TBox.there bz_
    replace hU_ : w1.setCells (w.heap.size) 0 (#[.bool false, .slice none 0 0, .int .i64 0, .bool false, .slice none 0 0, .int .i64 0] : Array Value).toList = U_ := hU_
    have HU_ := Lib.hid hU_
    clear hU_
    have fin_ := hb_ _ _ j1 (by omega)
    go_wp2_with (first | (refine wpList_store_mid rfl 32 (.tmp 1) (.tmp 6) rfl w.heap.size 0 #[.bool false, .slice none 0 0, .int .i64 0, .bool false, .slice none 0 0, .int .i64 0] rfl rfl th_ (by kernel_rfl) (all_oneCell_toArray (cells6D_one ZDv ZDv)) ?_; rw [HU_.out]))
    exact bodyPost_ret (results_row_slot Tryz.results77 _ _ w.heap.size 32 #[.bool false, .slice none 0 0, .int .i64 0, .bool false, .slice none 0 0, .int .i64 0] (0, 0) _ (.int .i64 6) rfl rfl bU_ Tryz.underlying32 rfl (by kernel_rfl)) rfl (told_zero _ _ _ fin_)
  · skip
    have hx := HX.out
    unfold endsX at hx
    rw [if_neg (by decide)] at hx
    injection hx with h1 h2
    injection h2 with h2 h3
    subst h1 h2 h3
    clear HX
    go_enter Tryz.func77, Tryz.ntmps77
    go_wp2_with fail
    refine (two_int w1 mn mx hmn hmx).mono ?_
    rintro e' u ⟨x, y, B, rfl, ix, iy, j2, l1, l2, rx, ry⟩
    clear k0 k1 k2
    try clear hw
    have bT2 : TBox u w.heap.size ZDv ZDv := (j2.block _ S1).trans bT
    have s1 := j1.size
    obtain ⟨U, hU, bU, hb, hf, l5, l6⟩ := told_into bT2 x y
    have th := TBox.there bT2
    replace hU : u.setCells w.heap.size 0 (#[.bool x.s, .slice x.A x.n x.c, .int .i64 x.e, .bool y.s, .slice y.A y.n y.c, .int .i64 y.e] : Array Value).toList = U := hU
    have HU := Lib.hid hU
    clear hU
    have fin := hb _ _ (j1.trans (j2.mono (by omega))) (by omega)
    go_wp2_with (first | (refine wpList_store_mid rfl 32 (.tmp 1) (.tmp 11) rfl w.heap.size 0 #[.bool x.s, .slice x.A x.n x.c, .int .i64 x.e, .bool y.s, .slice y.A y.n y.c, .int .i64 y.e] rfl rfl th (by kernel_rfl) (all_oneCell_toArray (cells6D_one x y)) ?_; rw [HU.out]))
    exact bodyPost_ret (results_row_slot Tryz.results77 _ _ w.heap.size 32 #[.bool x.s, .slice x.A x.n x.c, .int .i64 x.e, .bool y.s, .slice y.A y.n y.c, .int .i64 y.e] (0, 0) _ (.int .i64 0) rfl rfl bU Tryz.underlying32 rfl (by kernel_rfl)) rfl ⟨x, y, B, rfl, ix, iy, fin, by omega, by omega, (intsR rx (w' := U) (fun b h1 h2 => hf b (by omega))).more (by omega) (Nat.le_refl _), (intsR ry (w' := U) (fun b h1 h2 => hf b (by omega))).more (Nat.le_refl _) (by omega)⟩
set_option maxHeartbeats 25600000 in
set_option maxRecDepth 100000 in
/-- query.guess' own function. -/
theorem guess1_any (w : World) (g : Nat) (hg : g < w.heap.size) (A : Option Addr) (n c : Nat) (xs : List Int) (hE : w.heap[g]? = some (.cells #[.slice A n c] 22 (0, 0)))
    (hI : Ints w 0 w.heap.size .u32 A n xs) (hT : Tab w) (hc : Least.checkCode xs = 0) (lo hi : Dn) (code : Int) (hx : guessX xs = (lo, hi, code)) :
    Calls Tryz.prog 79 #[.pointer (some ⟨g, 0, none⟩)] w (ToldR w lo hi code) := by
  obtain ⟨w1, hw, bT, j1, S1⟩ := alloc_zt w
  have s1 := j1.size
  have k0 : w1.cell? ⟨g, 0, none⟩ = some (.slice A n c) := cell_of_row w1 g 0 _ _ _ (box_later hE j1 hg)
  have HX := Lib.hid hx
  have HC := Lib.hid hc
  have hlen := Lib.hid hI.len
  have hbig := hI.big
  obtain ⟨G, hG⟩ : ∃ G, Least.guessS xs = G := ⟨_, rfl⟩
  have hGb := Lib.hid (guessS_bound hc (fun x hx => by have := (hI.wf x hx).1; simpa [IntKind.min, IntKind.signed] using this))
  have hg2 := Lib.hid (show Least.guessR xs = G by unfold Least.guessR; rw [if_pos hc, hG])
  have HG := Lib.hid hG
  clear hx hc hG
  go_enter Tryz.func79, Tryz.ntmps79
  go_wp2_with fail
  refine (Least.Guess_any w1 0 w1.heap.size A n c xs (ints_on hI j1) 0 G HC.out hg2.out).mono ?_
  rintro e' u ⟨rfl, m, hm⟩
  try clear hw
  have j2 : Below w1.heap.size w1 u := by rw [hm]; exact below_drewN (Below.refl _ _) m
  have k1 : u.cell? ⟨g, 0, none⟩ = some (.slice A n c) := cell_of_row u g 0 _ _ _ (box_later hE (later j1 j2) hg)
  have s2 := j2.size
  have bT2 : TBox u w.heap.size ZDv ZDv := (j2.block _ S1).trans bT
  clear hm k0
  by_cases h0 : n = 0
  · skip
    have hx := HX.out
    unfold guessX at hx
    rw [if_pos (by rw [hlen.out]; exact h0)] at hx
    injection hx with h1 h2
    injection h2 with h2 h3
    subst h1 h2 h3
    subst h0
    clear HX HC hlen hGb hg2 HG
    have bz_ : TBox u w.heap.size ZDv ZDv := (box_later bT j2 S1)
    obtain ⟨U_, hU_, bU_, hb_, hf_, l5_, l5'_⟩ := told_into bz_ ZDv ZDv
    have th_ := TBox.there bz_
    replace hU_ : u.setCells (w.heap.size) 0 (#[.bool false, .slice none 0 0, .int .i64 0, .bool false, .slice none 0 0, .int .i64 0] : Array Value).toList = U_ := hU_
    have HU_ := Lib.hid hU_
    clear hU_
    have fin_ := hb_ _ _ (later j1 j2) (by omega)
    go_wp2_with (first | (refine wpList_store_mid rfl 32 (.tmp 1) (.tmp 18) rfl w.heap.size 0 #[.bool false, .slice none 0 0, .int .i64 0, .bool false, .slice none 0 0, .int .i64 0] rfl rfl th_ (by kernel_rfl) (all_oneCell_toArray (cells6D_one ZDv ZDv)) ?_; rw [HU_.out]))
    exact bodyPost_ret (results_row_slot Tryz.results79 _ _ w.heap.size 32 #[.bool false, .slice none 0 0, .int .i64 0, .bool false, .slice none 0 0, .int .i64 0] (0, 0) _ (.int .i64 6) rfl rfl bU_ Tryz.underlying32 rfl (by kernel_rfl)) rfl (told_zero _ _ _ fin_)
  · skip
    have hx := HX.out
    unfold guessX at hx
    rw [if_neg (by rw [hlen.out]; exact h0), HG.out] at hx
    injection hx with h1 h2
    injection h2 with h2 h3
    subst h1 h2 h3
    have n0 : ((n : Int) == 0) = false := by
      have : (n : Int) ≠ 0 := by omega
      simpa using this
    have hGb' := HG.out ▸ hGb.out
    clear HX HC hlen hGb hg2
    go_wp2_with fail
    refine (two_i64 u G G (by omega) (by omega)).mono ?_
    rintro e' v ⟨x0, y0, B0, rfl, ix, iy, j3, l1, l2, rx, ry⟩
    clear k1
    have s3 := j3.size
    have bT3 : TBox v w.heap.size ZDv ZDv := (j3.block _ (by omega)).trans bT2
    obtain ⟨v1, hv1, b4, j4, S4⟩ := alloc_t v x0 y0
    have hT4 : Tab v1 := tab_later (tab_later (tab_later (tab_later hT j1) j2) j3) j4
    have bT4 : TBox v1 w.heap.size ZDv ZDv := (j4.block _ (by omega)).trans bT3
    have rx4 : DRow v1 u.heap.size B0 x0 := rx.below j4 l2
    have ry4 : DRow v1 B0 v.heap.size y0 := ry.below j4 (Nat.le_refl _)
    have hb4 : Below w.heap.size w v1 := ((j1.trans (j2.mono (by omega))).trans (j3.mono (by omega))).trans (j4.mono (by omega))
    have hy4 := Lib.hid ix
    have hx4 := Lib.hid iy
    clear ix iy rx ry bT bT2 bT3
    go_wp2_with (first | (refine wpList_store_nw rfl 32 (.tmp 5) (.tmp 21) rfl _ #[.bool x0.s, .slice x0.A x0.n x0.c, .int .i64 x0.e, .bool y0.s, .slice y0.A y0.n y0.c, .int .i64 y0.e] rfl rfl (by kernel_rfl) rfl (all_oneCell_toArray (cells6D_one x0 y0)) ?_; rw [hv1]))
    try clear hv1
    obtain ⟨T, hTe⟩ : ∃ T, v.heap.size = T := ⟨_, rfl⟩
    rw [hTe] at b4
    try rw [hTe]
    go_loopw [22] (fun iv wr => ∃ (i : Nat) (x y : Dv) (lo B hi : Nat), iv = .int .i64 i ∧ i ≤ 2 ∧ Hid (Is (halves G i) x) ∧ Hid (Is (halves G i) y) ∧ TBox wr T x y ∧ TBox wr w.heap.size ZDv ZDv ∧ Below w.heap.size w wr ∧ T < wr.heap.size ∧ w.heap.size < T ∧ DRow wr lo B x ∧ DRow wr B hi y ∧ w.heap.size < lo ∧ lo ≤ B ∧ B ≤ hi ∧ hi ≤ wr.heap.size ∧ (hi ≤ T ∨ T < lo)) (fun iv _ => 2 - (intOf iv).toNat)
    case atStart => exact ⟨0, x0, y0, u.heap.size, B0, v.heap.size, rfl, by omega, hy4, hx4, b4, bT4, hb4, by omega, by omega, rx4, ry4, by omega, l1, l2, by omega, .inl (by omega)⟩
    case round =>
      clear hy4 hx4 b4 bT4 rx4 ry4 hT4 hb4
      obtain ⟨i, x, y, lo, B, hi, rfl, hi2, ix, iy, bX, bT, hb, t1, t2, rx, ry, q1, q2, q3, q4, q5⟩ := hrel
      by_cases hlt : i < 2
      · obtain ⟨r, hr⟩ : ∃ r, halves G (i + 1) = r := ⟨_, rfl⟩
        obtain ⟨q, hq⟩ : ∃ q, (halfD (halves G i)).2 = q := ⟨_, rfl⟩
        have hm := halves_may (z := G) (by omega) (by omega) i
        have HX := Lib.hid (show halfX x.s x.xs x.e = (r, q) by rw [is_half ix.out hm, ← hr, ← hq]; rfl)
        have HY := Lib.hid (show halfX y.s y.xs y.e = (r, q) by rw [is_half iy.out hm, ← hr, ← hq]; rfl)
        have HRn := Lib.hid hr
        have hwr : IntKind.i64.wrap ((i : Int) + 1) = ((i + 1 : Nat) : Int) := by rw [IntKind.wrap_i64]; omega
        have rlo := TBox.low bX
        clear hr hq hm
        go_wp2_with (first | (refine wpList_load_mid rfl 24 (.tmp 25) rfl T 0 rfl [.bool x.s, .slice x.A x.n x.c, .int .i64 x.e] _ rlo Tryz.underlying24 rfl (by kernel_rfl) ?_))
        refine (Half_all wr x.s x.A x.n x.c x.xs x.e (rx.more (Nat.zero_le _) (by omega)) (tab_later hT hb) r q HX.out).mono ?_
        rintro e' a1 ⟨A1, n1, c1, rfl, _, ja, I1⟩
        clear rlo
        have sa := ja.size
        have bXa : TBox a1 T x y := (ja.block _ t1).trans bX
        obtain ⟨U1, hU1, bX1, hb1, hf1, g1, g1'⟩ := low_into bXa ⟨r.neg, A1, n1, c1, r.e, canon 4294967296 r.m⟩
        have th1 := TBox.thereL bXa
        replace hU1 : a1.setCells T 0 (#[.bool r.neg, .slice A1 n1 c1, .int .i64 r.e] : Array Value).toList = U1 := hU1
        have HU1 := Lib.hid hU1
        have rhi := TBox.high bX1
        have hba : Below w.heap.size w a1 := hb.trans (ja.mono hb.size)
        have hbU : Below w.heap.size w U1 := hb1 _ _ hba (by omega)
        have ryU : DRow U1 B hi y := intsR (ry.below ja q4) (w' := U1) (fun b h1 h2 => hf1 b (by omega))
        have rxU : DRow U1 wr.heap.size U1.heap.size ⟨r.neg, A1, n1, c1, r.e, canon 4294967296 r.m⟩ := (intsR I1 (w' := U1) (fun b h1 h2 => hf1 b (by omega))).more (Nat.le_refl _) g1'
        have bTU : TBox U1 w.heap.size ZDv ZDv := (hf1 _ (by omega)).trans ((ja.block _ (by omega)).trans bT)
        clear hU1 bXa
        go_wp2_with (first
          | (refine wpList_store_mid rfl 24 (.tmp 30) (.tmp 28) rfl T 0 #[.bool r.neg, .slice A1 n1 c1, .int .i64 r.e] rfl rfl th1 (by kernel_rfl) (all_oneCell_toArray (cells3D_one ⟨r.neg, A1, n1, c1, r.e, []⟩)) ?_; rw [HU1.out])
          | (refine wpList_load_mid rfl 24 (.tmp 32) rfl T 3 rfl [.bool y.s, .slice y.A y.n y.c, .int .i64 y.e] _ rhi Tryz.underlying24 rfl (by kernel_rfl) ?_))
        refine (Half_all U1 y.s y.A y.n y.c y.xs y.e (ryU.more (Nat.zero_le _) (by omega)) (tab_later hT hbU) r q HY.out).mono ?_
        rintro e' a2 ⟨A2, n2, c2, rfl, _, jb, I2⟩
        clear rhi th1 HU1
        have sb := jb.size
        have bXb : TBox a2 T ⟨r.neg, A1, n1, c1, r.e, canon 4294967296 r.m⟩ y := (jb.block _ (by omega)).trans bX1
        obtain ⟨U2, hU2, bX2, hb2, hf2, g2, g2'⟩ := high_into bXb ⟨r.neg, A2, n2, c2, r.e, canon 4294967296 r.m⟩
        have th2 := TBox.thereH bXb
        replace hU2 : a2.setCells T 3 (#[.bool r.neg, .slice A2 n2 c2, .int .i64 r.e] : Array Value).toList = U2 := hU2
        have HU2 := Lib.hid hU2
        have hbV : Below w.heap.size w U2 := hb2 _ _ (hbU.trans (jb.mono hbU.size)) (by omega)
        have rxV : DRow U2 wr.heap.size U1.heap.size ⟨r.neg, A1, n1, c1, r.e, canon 4294967296 r.m⟩ := intsR (rxU.below jb (Nat.le_refl _)) (w' := U2) (fun b h1 h2 => hf2 b (by omega))
        have ryV : DRow U2 U1.heap.size U2.heap.size ⟨r.neg, A2, n2, c2, r.e, canon 4294967296 r.m⟩ := (intsR I2 (w' := U2) (fun b h1 h2 => hf2 b (by omega))).more (Nat.le_refl _) g2'
        have bTV : TBox U2 w.heap.size ZDv ZDv := (hf2 _ (by omega)).trans ((jb.block _ (by omega)).trans bTU)
        clear hU2 bXb
        go_wp2_with (first
          | (refine wpList_store_mid rfl 24 (.tmp 37) (.tmp 35) rfl T 3 #[.bool r.neg, .slice A2 n2 c2, .int .i64 r.e] rfl rfl th2 (by kernel_rfl) (all_oneCell_toArray (cells3D_one ⟨r.neg, A2, n2, c2, r.e, []⟩)) ?_; rw [HU2.out]))
        go_roundw
        case rel => exact ⟨i + 1, ⟨r.neg, A1, n1, c1, r.e, canon 4294967296 r.m⟩, ⟨r.neg, A2, n2, c2, r.e, canon 4294967296 r.m⟩, wr.heap.size, U1.heap.size, U2.heap.size, by first | rfl | (congr 1; omega) | go_num, hlt, Lib.hid (by rw [HRn.out]; exact ⟨rfl, rfl, rfl⟩), Lib.hid (by rw [HRn.out]; exact ⟨rfl, rfl, rfl⟩), bX2, bTV, hbV, by omega, t2, rxV, ryV, by omega, by omega, by omega, Nat.le_refl _, .inr (by omega)⟩
        case measure => first | (simp [intOf]; done) | (simp [intOf]; omega)
      · obtain rfl : i = 2 := by omega
        have rxy := TBox.range bX
        obtain ⟨U, hU, bF, hbF, hfF, g1, g1'⟩ := told_into bT x y
        have th := TBox.there bT
        replace hU : wr.setCells w.heap.size 0 (#[.bool x.s, .slice x.A x.n x.c, .int .i64 x.e, .bool y.s, .slice y.A y.n y.c, .int .i64 y.e] : Array Value).toList = U := hU
        have HU := Lib.hid hU
        clear hU
        go_wp2_with (first
          | (refine wpList_load_mid rfl 32 (.tmp 5) rfl T 0 rfl [.bool x.s, .slice x.A x.n x.c, .int .i64 x.e, .bool y.s, .slice y.A y.n y.c, .int .i64 y.e] _ rxy Tryz.underlying32 rfl (by kernel_rfl) ?_)
          | (refine wpList_store_mid rfl 32 (.tmp 1) (.tmp 39) rfl w.heap.size 0 #[.bool x.s, .slice x.A x.n x.c, .int .i64 x.e, .bool y.s, .slice y.A y.n y.c, .int .i64 y.e] rfl rfl th (by kernel_rfl) (all_oneCell_toArray (cells6D_one x y)) ?_; rw [HU.out]))
        have fin := hbF _ _ hb (Nat.le_refl _)
        exact bodyPost_ret (results_row_slot Tryz.results79 _ _ w.heap.size 32 #[.bool x.s, .slice x.A x.n x.c, .int .i64 x.e, .bool y.s, .slice y.A y.n y.c, .int .i64 y.e] (0, 0) _ (.int .i64 0) rfl rfl bF Tryz.underlying32 rfl (by kernel_rfl)) rfl ⟨x, y, B, rfl, ix.out, iy.out, fin, by omega, by omega, (intsR rx (w' := U) (fun b h1 h2 => hfF b (by omega))).more (by omega) (Nat.le_refl _), (intsR ry (w' := U) (fun b h1 h2 => hfF b (by omega))).more (Nat.le_refl _) (by omega)⟩
end Ma
end Go.Proofs.YtmbppgjhdcmckaaGreatDoor
