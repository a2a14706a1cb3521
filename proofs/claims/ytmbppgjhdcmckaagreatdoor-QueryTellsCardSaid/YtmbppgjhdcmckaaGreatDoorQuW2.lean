/- query: count, ends: walks (printed by a program of mine). -/
import Derived.Test.YtmbppgjhdcmckaaGreatDoorQuW1
namespace Go.Proofs.YtmbppgjhdcmckaaGreatDoor
open Go.RowKit
namespace Ma
open Dp Dy
/-- What count tells: an average of 1, at one of them. -/
noncomputable def countX (c : Dv) : Dn × Dn × Int :=
  if aboveV c = false then (Dn.zero, Dn.zero, 6) else
  if (nearX false (canon 4294967296 1) 0 c.s c.xs c.e).2 = 0 then ((nearX false (canon 4294967296 1) 0 c.s c.xs c.e).1, (nearX false (canon 4294967296 1) 0 c.s c.xs c.e).1, 0)
  else (Dn.zero, Dn.zero, (nearX false (canon 4294967296 1) 0 c.s c.xs c.e).2)
/-- What ends tells. -/
def endsX (h : Bool) (mn mx : Int) : Dn × Dn × Int := if h = false then (Dn.zero, Dn.zero, 6) else (whole mn, whole mx, 0)
/-- A function value that tells. -/
def Tells (F : FuncId) (w : World) (T : Dn × Dn × Int) (v : Value) : Prop :=
  ∃ (cs : Array Value), v = .func (.func F) #[] cs ∧ ∀ w', Below w.heap.size w w' → Calls Tryz.prog F cs w' (ToldR w' T.1 T.2.1 T.2.2)
theorem nearX_may {s1 : Bool} {xs1 : List Int} {e1 : Int} {s2 : Bool} {xs2 : List Int} {e2 : Int} {x : Dn} {c : Int} (h : nearX s1 xs1 e1 s2 xs2 e2 = (x, c)) : x.May := by
  unfold nearX at h
  split at h
  · have := formed_may (dn s1 xs1 e1).neg ((quoN (dn s1 xs1 e1) (dn s2 xs2 e2) 1).1 / 2 + if (quoN (dn s1 xs1 e1) (dn s2 xs2 e2) 1).1 % 2 = 1 ∧ ((dn s1 xs1 e1).neg = false ∨ (quoN (dn s1 xs1 e1) (dn s2 xs2 e2) 1).2 ≠ 0) then 1 else 0) 0
    unfold nearD at h
    rw [h] at this
    exact this
  · injection h with h _
    subst h
    exact zero_may
theorem drow_on {w w' : World} {x : Dv} (h : DRow w 0 w.heap.size x) (hb : Below w.heap.size w w') : DRow w' 0 w'.heap.size x := ints_on h hb
theorem told_zero (w : World) (code : Int) (w' : World) (b : Below w.heap.size w w') : ToldR w Dn.zero Dn.zero code (.returned (.tuple #[.agg #[.bool false, .slice none 0 0, .int .i64 0, .bool false, .slice none 0 0, .int .i64 0], .int .i64 code])) w' :=
  ⟨ZDv, ZDv, w.heap.size, rfl, isZ, isZ, b, Nat.le_refl _, b.size, rowZ _ _ _, rowZ _ _ _⟩
set_option maxHeartbeats 12800000 in
set_option maxRecDepth 100000 in
/-- query.count's own function. -/
theorem count1_any (w : World) (g : Nat) (hg : g < w.heap.size) (c : Dv) (hQ : QBox w g c) (hR : DRow w 0 w.heap.size c) (lo hi : Dn) (code : Int) (h : countX c = (lo, hi, code)) :
    Calls Tryz.prog 70 #[.pointer (some ⟨g, 0, none⟩)] w (ToldR w lo hi code) := by
  obtain ⟨w1, hw, bT, j1, S1⟩ := alloc_zt w
  obtain ⟨a, ha⟩ : ∃ a, aboveV c = a := ⟨_, rfl⟩
  have HA := Lib.hid ha
  obtain ⟨r, k, hr⟩ : ∃ r k, nearX false (canon 4294967296 1) 0 c.s c.xs c.e = (r, k) := ⟨_, _, rfl⟩
  unfold countX at h
  rw [ha, hr] at h
  have HR := Lib.hid hr
  have HH := Lib.hid h
  clear ha hr h
  go_enter Tryz.func70, Tryz.ntmps70
  have rQ : w1.rangeAt (g) 0 [.bool c.s, .slice c.A c.n c.c, .int .i64 c.e] := QBox.range (x := c) (box_later hQ j1 hg)
  go_wp2_with (first | (refine wpList_load_mid rfl 24 (.tmp 0) rfl (g) 0 rfl [.bool c.s, .slice c.A c.n c.c, .int .i64 c.e] _ rQ Tryz.underlying24 rfl (by kernel_rfl) ?_))
  clear rQ
  refine (above_any w1 c a HA.out).mono ?_
  rintro e' v1 ⟨rfl, j2⟩
  try clear hw
  cases a
  · skip
    have HH := HH.out
    rw [if_pos rfl] at HH
    injection HH with h1 h2
    injection h2 with h2 h3
    subst h1 h2 h3
    clear HA HR
    have bz_ : TBox v1 w.heap.size ZDv ZDv := (box_later bT j2 S1)
    obtain ⟨U_, hU_, bU_, hb_, hf_, l5_, l5'_⟩ := told_into bz_ ZDv ZDv
    have th_ := TBox.there bz_
    replace hU_ : v1.setCells (w.heap.size) 0 (#[.bool false, .slice none 0 0, .int .i64 0, .bool false, .slice none 0 0, .int .i64 0] : Array Value).toList = U_ := hU_
    have HU_ := Lib.hid hU_
    clear hU_
    have fin_ := hb_ _ _ (later j1 j2) (by omega)
    go_wp2_with (first | (refine wpList_store_mid rfl 32 (.tmp 1) (.tmp 6) rfl w.heap.size 0 #[.bool false, .slice none 0 0, .int .i64 0, .bool false, .slice none 0 0, .int .i64 0] rfl rfl th_ (by kernel_rfl) (all_oneCell_toArray (cells6D_one ZDv ZDv)) ?_; rw [HU_.out]))
    exact bodyPost_ret (results_row_slot Tryz.results70 _ _ w.heap.size 32 #[.bool false, .slice none 0 0, .int .i64 0, .bool false, .slice none 0 0, .int .i64 0] (0, 0) _ (.int .i64 6) rfl rfl bU_ Tryz.underlying32 rfl (by kernel_rfl)) rfl (told_zero _ _ _ fin_)
  · skip
    have HH2 := Lib.hid (show (if k = 0 then (r, r, (0 : Int)) else (Dn.zero, Dn.zero, k)) = (lo, hi, code) by have := HH.out; rw [if_neg (by decide)] at this; exact this)
    clear HH HA
    go_wp2_with fail
    try clear hw
    refine region_E (Keeps v1) [7] (m := 9) (L := #[false, false, false, false, false, false, false, false, false]) (by kernel_rfl) (by rfl) (by rfl) ?_
    have j4 : Below v1.heap.size v1 v1.drew := (Below.refl _ _).drew
    generalize v1.drew = v3 at *
    have kpy5 : Keeps v1 v3 := fun p hp => Below.block j4 p hp
    refine readE (i := 1) (L := #[false, true, false, false, false, false, false, false, false]) (v := .agg #[.bool c.s, .slice c.A c.n c.c, .int .i64 c.e]) rfl (by rfl) (by kernel_rfl) (by kernel_rfl) (by kernel_rfl) (fun _ _ _ h => h) (by assumption) (by rfl) ?y5 ?z6
    case y5 =>
      intro w' h1
      exact run_load_op 24 (.tmp 0) rfl g 0 rfl [.bool c.s, .slice c.A c.n c.c, .int .i64 c.e] _ (QBox.range (x := c) ((h1 _ (Nat.lt_of_lt_of_le hg (Below.size (later j1 j2)))).trans (box_later hQ (later j1 j2) hg))) Tryz.underlying24 rfl (by kernel_rfl)
    try simp only [Act.put, List.setIfInBounds_toArray, List.set_cons_zero, List.set_cons_succ]
    refine stepK (i := 0) (L := #[true, true, false, false, false, false, false, false, false]) rfl (by rfl) (by kernel_rfl) (by rfl) (fun K hK => ?_)
    go_simp
    go_at_call 19
    refine (Of_any v3 1 (by decide) (by decide) false 1 rfl rfl).mono ?_
    rintro e' v7 ⟨A1, n1, rfl, j8, I1⟩
    refine hK _ _ ⟨fun _ _ => fun p hp => Below.block (later j4 j8) p hp, ?_⟩
    clear hK K
    try simp only [Act.put, List.setIfInBounds_toArray, List.set_cons_zero, List.set_cons_succ]
    have I1' := I1.more (Nat.zero_le _) (Nat.le_refl _)
    refine stepK (i := 2) (L := #[true, true, true, false, false, false, false, false, false]) rfl (by rfl) (by kernel_rfl) (by rfl) (fun K hK => ?_)
    go_simp
    go_at_call 72
    refine (near_all v7 false c.s A1 c.A n1 n1 c.n c.c _ c.xs 0 c.e I1' (ints_on hR (later j1 (later j2 (later j4 j8)))) r k HR.out).mono ?_
    rintro e' v9 ⟨A2, n2, c2, rfl, hnc, j10, I2⟩
    refine hK _ _ ⟨fun _ _ => fun p hp => Below.block (later j4 (later j8 j10)) p hp, ?_⟩
    clear hK K
    try simp only [Act.put, List.setIfInBounds_toArray, List.set_cons_zero, List.set_cons_succ]
    refine pureE (i := 3) (L := #[true, true, true, true, false, false, false, false, false]) (v := ?_) rfl (by rfl) (by kernel_rfl) (by kernel_rfl) (by kernel_rfl) (fun _ _ _ h => h) (by rfl) ?hy4 ?rest4
    case hy4 => intro w; go_simp; (try with_reducible rfl)
    try simp only [Act.put, List.setIfInBounds_toArray, List.set_cons_zero, List.set_cons_succ]
    refine pureE (i := 4) (L := #[true, true, true, true, true, false, false, false, false]) (v := ?_) rfl (by rfl) (by kernel_rfl) (by kernel_rfl) (by kernel_rfl) (fun _ _ _ h => h) (by rfl) ?hy5 ?rest5
    case hy5 => intro w; go_simp; (try with_reducible rfl)
    try simp only [Act.put, List.setIfInBounds_toArray, List.set_cons_zero, List.set_cons_succ]
    refine pureE (i := 5) (L := #[true, true, true, true, true, true, false, false, false]) (v := ?_) rfl (by rfl) (by kernel_rfl) (by kernel_rfl) (by kernel_rfl) (fun _ _ _ h => h) (by rfl) ?hy6 ?rest6
    case hy6 => intro w; go_simp; (try with_reducible rfl)
    try simp only [Act.put, List.setIfInBounds_toArray, List.set_cons_zero, List.set_cons_succ]
    refine pureE (i := 6) (L := #[true, true, true, true, true, true, true, false, false]) (v := ?_) rfl (by rfl) (by kernel_rfl) (by kernel_rfl) (by kernel_rfl) (fun _ _ _ h => h) (by rfl) ?hy7 ?rest7
    case hy7 => intro w; go_simp; (try with_reducible rfl)
    try simp only [Act.put, List.setIfInBounds_toArray, List.set_cons_zero, List.set_cons_succ]
    have sz1_ := Below.size (later j2 (later j4 (later j8 j10)))
    have hT_ : TBox v9 w.heap.size ZDv ZDv := (box_later bT (later j2 (later j4 (later j8 j10))) S1)
    have b0_ := (later j1 (later j2 (later j4 (later j8 j10))))
    obtain ⟨U11, hU_, bTU11, hb_, hf_, l5_, l5'_⟩ := low_into hT_ ⟨r.neg, A2, n2, c2, r.e, canon 4294967296 r.m⟩
    have th_ := TBox.thereL hT_
    refine stepK (i := 7) (L := #[true, true, true, true, true, true, true, true, false]) rfl (by rfl) (by kernel_rfl) (by rfl) (fun K hK => ?_)
    refine wp_store_mid 24 (.tmp 13) (.tmp 11) rfl w.heap.size 0 #[.bool r.neg, .slice A2 n2 c2, .int .i64 r.e] rfl rfl th_ (by kernel_rfl) (all_oneCell_toArray (cells3D_one ⟨r.neg, A2, n2, c2, r.e, canon 4294967296 r.m⟩)) ?_
    rw [show v9.setCells w.heap.size 0 (#[.bool r.neg, .slice A2 n2 c2, .int .i64 r.e] : Array Value).toList = U11 from hU_]
    clear hU_ th_
    refine hK _ _ ⟨fun h => absurd h (by decide), ?_⟩
    clear hK K
    try simp only [Act.put, List.setIfInBounds_toArray, List.set_cons_zero, List.set_cons_succ]
    have bU11 := hb_ _ _ b0_ (by omega)
    clear hT_ hb_ b0_
    refine pureE (i := 8) (L := #[true, true, true, true, true, true, true, true, true]) (v := ?_) rfl (by rfl) (by kernel_rfl) (by kernel_rfl) (by kernel_rfl) (fun _ _ _ h => h) (by rfl) ?hy9 ?rest9
    case hy9 => intro w; go_simp; (try with_reducible rfl)
    try simp only [Act.put, List.setIfInBounds_toArray, List.set_cons_zero, List.set_cons_succ]
    refine doneE (by kernel_rfl) ?_ _
    have sz0_ := Below.size (later j2 (later j4 j8))
    have sz2_ := Below.size j10
    obtain ⟨lo1, hlo1⟩ : ∃ n, v7.heap.size = n := ⟨_, rfl⟩
    have l1 : w.heap.size < lo1 := by omega
    obtain ⟨x, hx⟩ : ∃ x : Dv, x = ⟨r.neg, A2, n2, c2, r.e, canon 4294967296 r.m⟩ := ⟨_, rfl⟩
    have bX : TBox U11 w.heap.size x ZDv := by rw [hx]; exact bTU11
    have ix : Is r x := by rw [hx]; exact ⟨rfl, rfl, rfl⟩
    have rx : DRow U11 lo1 U11.heap.size x := by rw [hx, ← hlo1]; exact (intsR I2 (fun b h1 h2 => hf_ b (by omega))).more (Nat.le_refl _) l5'_
    have l2 : lo1 ≤ U11.heap.size := by omega
    clear hx bTU11 hf_ hlo1
    by_cases hk : k = 0
    rotate_left
    · skip
      have HH := HH2.out
      rw [if_neg hk] at HH
      injection HH with h1 h2
      injection h2 with h2 h3
      subst h1 h2 h3
      have n0 : (k != 0) = true := by simpa using hk
      clear HH2 HR
      obtain ⟨U_, hU_, bU_, hb_, hf_, l7_, l7'_⟩ := told_into bX ZDv ZDv
      have th_ := TBox.there bX
      replace hU_ : U11.setCells w.heap.size 0 (#[.bool false, .slice none 0 0, .int .i64 0, .bool false, .slice none 0 0, .int .i64 0] : Array Value).toList = U_ := hU_
      have HU_ := Lib.hid hU_
      clear hU_
      have fin_ := hb_ _ _ bU11 (by omega)
      go_wp2_with (first | (refine wpList_store_mid rfl 32 (.tmp 1) (.tmp 16) rfl w.heap.size 0 #[.bool false, .slice none 0 0, .int .i64 0, .bool false, .slice none 0 0, .int .i64 0] rfl rfl th_ (by kernel_rfl) (all_oneCell_toArray (cells6D_one ZDv ZDv)) ?_; rw [HU_.out]))
      exact bodyPost_ret (results_row_slot Tryz.results70 _ _ w.heap.size 32 #[.bool false, .slice none 0 0, .int .i64 0, .bool false, .slice none 0 0, .int .i64 0] (0, 0) _ (.int .i64 k) rfl rfl bU_ Tryz.underlying32 rfl (by kernel_rfl)) rfl (told_zero _ _ _ fin_)
    · skip
      have HH := HH2.out
      rw [if_pos hk] at HH
      injection HH with h1 h2
      injection h2 with h2 h3
      subst h1 h2 h3 hk
      have rlo := TBox.low bX
      have hbig : x.n ≤ 1000000 := by
        have := ints_may (a := r) (by rw [← ix.2.2]; exact rx) (nearX_may HR.out)
        omega
      clear HH2 HR
      go_wp2_with (first | (refine wpList_load_mid rfl 24 (.tmp 18) rfl w.heap.size 0 rfl [.bool x.s, .slice x.A x.n x.c, .int .i64 x.e] _ rlo Tryz.underlying24 rfl (by kernel_rfl) ?_))
      refine (Pa.dyadTwin_any U11 x.s x.A x.n x.c x.xs x.e (rx.more (Nat.zero_le _) (Nat.le_refl _)) hbig).mono ?_
      rintro e' u2 ⟨A3, c3, rfl, hc3, j3, _, I3⟩
      clear rlo
      have sz2_ := Below.size bU11
      have sz3_ := Below.size j3
      have bX2 : TBox u2 w.heap.size x ZDv := (j3.block _ (by omega)).trans bX
      obtain ⟨y, hy⟩ : ∃ y : Dv, y = ⟨x.s, A3, x.n, c3, x.e, x.xs⟩ := ⟨_, rfl⟩
      obtain ⟨U2, hU2, bY, hb2, hf2, l7_, l7'_⟩ := high_into bX2 ⟨x.s, A3, x.n, c3, x.e, x.xs⟩
      have bXY : TBox U2 w.heap.size x y := by rw [hy]; exact bY
      have iy : Is r y := by rw [hy]; exact ix
      have b2 := hb2 _ _ (bU11.trans (j3.mono (by omega))) (by omega)
      have ry2 : DRow U2 U11.heap.size U2.heap.size y := by rw [hy]; exact (intsR I3 (fun b h1 h2 => hf2 b (by omega))).more (by omega) (by omega)
      have rx3 : DRow U2 lo1 U11.heap.size x := intsR rx (w' := U2) (fun b h1 h2 => (hf2 b (by omega)).trans (j3.block b (by omega)))
      have thH := TBox.thereH bX2
      replace hU2 : u2.setCells w.heap.size 3 (#[.bool x.s, .slice A3 x.n c3, .int .i64 x.e] : Array Value).toList = U2 := hU2
      have HU2 := Lib.hid hU2
      clear hU2 bY hy bX hb2
      have rxy := TBox.range bXY
      obtain ⟨U3, hU3, bF, hb3, hf3, l8_, l8'_⟩ := told_into bXY x y
      have th3 := TBox.there bXY
      replace hU3 : U2.setCells w.heap.size 0 (#[.bool x.s, .slice x.A x.n x.c, .int .i64 x.e, .bool y.s, .slice y.A y.n y.c, .int .i64 y.e] : Array Value).toList = U3 := hU3
      have HU3 := Lib.hid hU3
      clear hU3
      go_wp2_with (first
        | (refine wpList_store_mid rfl 24 (.tmp 21) (.tmp 20) rfl w.heap.size 3 #[.bool x.s, .slice A3 x.n c3, .int .i64 x.e] rfl rfl thH (by kernel_rfl) (all_oneCell_toArray (cells3D_one ⟨x.s, A3, x.n, c3, x.e, x.xs⟩)) ?_; rw [HU2.out])
        | (refine wpList_load_mid rfl 32 (.tmp 1) rfl w.heap.size 0 rfl [.bool x.s, .slice x.A x.n x.c, .int .i64 x.e, .bool y.s, .slice y.A y.n y.c, .int .i64 y.e] _ rxy Tryz.underlying32 rfl (by kernel_rfl) ?_)
        | (refine wpList_store_mid rfl 32 (.tmp 1) (.tmp 22) rfl w.heap.size 0 #[.bool x.s, .slice x.A x.n x.c, .int .i64 x.e, .bool y.s, .slice y.A y.n y.c, .int .i64 y.e] rfl rfl th3 (by kernel_rfl) (all_oneCell_toArray (cells6D_one x y)) ?_; rw [HU3.out]))
      have fin := hb3 _ _ b2 (by omega)
      have rx4 : DRow U3 w.heap.size U11.heap.size x := (intsR rx3 (w' := U3) (fun b h1 h2 => hf3 b (by omega))).more (by omega) (Nat.le_refl _)
      exact bodyPost_ret (results_row_slot Tryz.results70 _ _ w.heap.size 32 #[.bool x.s, .slice x.A x.n x.c, .int .i64 x.e, .bool y.s, .slice y.A y.n y.c, .int .i64 y.e] (0, 0) _ (.int .i64 0) rfl rfl bF Tryz.underlying32 rfl (by kernel_rfl)) rfl ⟨x, y, U11.heap.size, rfl, ix, iy, fin, by omega, by omega, rx4, (intsR ry2 (fun b h1 h2 => hf3 b (by omega))).more (Nat.le_refl _) (by omega)⟩
end Ma
end Go.Proofs.YtmbppgjhdcmckaaGreatDoor
