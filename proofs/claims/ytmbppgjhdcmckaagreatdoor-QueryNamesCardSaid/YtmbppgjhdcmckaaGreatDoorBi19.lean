/- query: above, two, ends: walks (printed by a program of mine). -/
/- query: count, ends: walks (printed by a program of mine). -/
/- query: parts: a walk (printed by a program of mine). -/
/- query: ends, guess: walks (printed by a program of mine). -/
/- query: count, parts, even, ends, guess: what makes closures: walks (printed by a program of mine). -/
import Derived.Test.YtmbppgjhdcmckaaGreatDoorBi12
import Derived.Test.YtmbppgjhdcmckaaGreatDoorBi18
namespace Go.Proofs.YtmbppgjhdcmckaaGreatDoor
open Go.RowKit
namespace Ma
open Dp Dy
set_option maxHeartbeats 3200000 in
set_option maxRecDepth 100000 in
/-- query.above. -/
theorem above_any (w : World) (d : Dv) (b : Bool) (hb : aboveV d = b) :
  Calls Tryz.prog 71 #[.agg #[.bool d.s, .slice d.A d.n d.c, .int .i64 d.e]] w fun e w' => e = .returned (.bool b) ∧ Below w.heap.size w w' := by
 obtain ⟨w1, hw, bQ, j1, S1⟩ := alloc_q w d
 obtain ⟨k0, k1, k2⟩ := (boxD bQ).1
 obtain ⟨f0, f1, f2⟩ := (boxD bQ).2
 obtain ⟨s, hs⟩ : ∃ s, d.s = s := ⟨_, rfl⟩
 rw [hs] at k0
 have HB := Lib.hid hb
 have HS := Lib.hid hs
 rw [hs] at hw
 clear hb
 rw [hs]
 clear hs
 cases s
 · by_cases h0 : 0 < d.n
   · have hb' : b = true := by rw [← HB.out, aboveV, HS.out, decide_eq_true h0]; rfl
     subst hb'
     clear HB HS
     go_enter Tryz.func71, Tryz.ntmps71
     go_wp2
     go_ret
     exact ⟨by simp [], j1⟩
   · have hb' : b = false := by rw [← HB.out, aboveV, HS.out, decide_eq_false h0]; rfl
     subst hb'
     clear HB HS
     go_enter Tryz.func71, Tryz.ntmps71
     go_wp2
     go_ret
     exact ⟨by simp [], j1⟩
 · have hb' : b = false := by rw [← HB.out, aboveV, HS.out]; rfl
   subst hb'
   clear HB HS
   go_enter Tryz.func71, Tryz.ntmps71
   go_wp2
   go_ret
   exact ⟨rfl, j1⟩
set_option maxHeartbeats 6400000 in
set_option maxRecDepth 100000 in
/-- query.two[int]. -/
theorem two_int (w : World) (a b : Int) (ha : -9223372036854775808 ≤ a ∧ a ≤ 9223372036854775807) (hb : -9223372036854775808 ≤ b ∧ b ≤ 9223372036854775807) :
  Calls Tryz.prog 78 #[.int .i64 a, .int .i64 b] w fun e w' => ∃ (x y : Dv) (B : Nat), e = .returned (.agg #[.bool x.s, .slice x.A x.n x.c, .int .i64 x.e, .bool y.s, .slice y.A y.n y.c, .int .i64 y.e]) ∧ Is (whole a) x ∧ Is (whole b) y ∧ Below w.heap.size w w' ∧ w.heap.size ≤ B ∧ B ≤ w'.heap.size ∧ DRow w' w.heap.size B x ∧ DRow w' B w'.heap.size y := by
 obtain ⟨w1, hw, bT, j1, S1⟩ := alloc_zt w
 obtain ⟨sa, hsa⟩ : ∃ s, decide (a < 0) = s := ⟨_, rfl⟩
 obtain ⟨sb, hsb⟩ : ∃ s, decide (b < 0) = s := ⟨_, rfl⟩
 have HA := Lib.hid hsa
 have HB := Lib.hid hsb
 clear hsa hsb
 go_enter Tryz.func78, Tryz.ntmps78
 go_wp2_with fail
 refine (Of_any w1 a ha.1 ha.2 sa a.natAbs HA.out rfl).mono ?_
 rintro e' w2 ⟨A1, n1, rfl, j2, I1⟩
 go_wp2_with fail
 refine (Of_any w2 b hb.1 hb.2 sb b.natAbs HB.out rfl).mono ?_
 rintro e' w3 ⟨A2, n2, rfl, j3, I2⟩
 obtain ⟨x, hx⟩ : ∃ x : Dv, x = ⟨sa, A1, n1, n1, 0, canon 4294967296 a.natAbs⟩ := ⟨_, rfl⟩
 obtain ⟨y, hy⟩ : ∃ y : Dv, y = ⟨sb, A2, n2, n2, 0, canon 4294967296 b.natAbs⟩ := ⟨_, rfl⟩
 have s1 := j1.size
 have s2 := j2.size
 have s3 := j3.size
 have ia : Is (whole a) x := by rw [hx, whole, HA.out]; exact ⟨rfl, rfl, rfl⟩
 have ib : Is (whole b) y := by rw [hy, whole, HB.out]; exact ⟨rfl, rfl, rfl⟩
 have rx : DRow w3 (w.heap.size + 1) w2.heap.size x := by rw [hx]; exact (I1.below j3 (Nat.le_refl _)).more (by omega) (Nat.le_refl _)
 have ry : DRow w3 w2.heap.size w3.heap.size y := by rw [hy]; exact I2
 have bT3 : TBox w3 w.heap.size ZDv ZDv := (j3.block _ (by omega)).trans ((j2.block _ S1).trans bT)
 have b3 := (j1.trans (j2.mono (by omega))).trans (j3.mono (by omega))
 clear I1 I2 HA HB
 obtain ⟨U, hU, bU, hb_, hf_, l1, l2⟩ := told_into bT3 x y
 have th := TBox.there bT3
 rw [hx, hy] at hU
 replace hU : w3.setCells w.heap.size 0 (#[.bool sa, .slice A1 n1 n1, .int .i64 0, .bool sb, .slice A2 n2 n2, .int .i64 0] : Array Value).toList = U := hU
 have HU := Lib.hid hU
 clear hU
 go_wp2_with (first
  | (refine wpList_store_mid rfl 32 (.tmp 4) (.tmp 9) rfl w.heap.size 0 #[.bool sa, .slice A1 n1 n1, .int .i64 0, .bool sb, .slice A2 n2 n2, .int .i64 0] rfl rfl th (by kernel_rfl) (all_oneCell_toArray (cells6D_one ⟨sa, A1, n1, n1, 0, []⟩ ⟨sb, A2, n2, n2, 0, []⟩)) ?_; rw [HU.out]))
 have fin := hb_ _ _ b3 (Nat.le_refl _)
 have rx' := (intsR rx (w' := U) fun b h1 h2 => hf_ b (by omega)).more (lo' := w.heap.size) (hi' := w2.heap.size) (by omega) (Nat.le_refl _)
 have ry' := (intsR ry (w' := U) fun b h1 h2 => hf_ b (by omega)).more (lo' := w2.heap.size) (hi' := U.heap.size) (Nat.le_refl _) (by omega)
 exact bodyPost_ret (results_cell_row Tryz.results78 _ _ w.heap.size 32 #[.bool x.s, .slice x.A x.n x.c, .int .i64 x.e, .bool y.s, .slice y.A y.n y.c, .int .i64 y.e] (0, 0) _ rfl bU Tryz.underlying32 rfl (by kernel_rfl)) rfl ⟨x, y, w2.heap.size, rfl, ia, ib, fin, by omega, by omega, rx', ry'⟩
set_option maxHeartbeats 6400000 in
set_option maxRecDepth 100000 in
/-- query.two[int64]. -/
theorem two_i64 (w : World) (a b : Int) (ha : -9223372036854775808 ≤ a ∧ a ≤ 9223372036854775807) (hb : -9223372036854775808 ≤ b ∧ b ≤ 9223372036854775807) :
  Calls Tryz.prog 81 #[.int .i64 a, .int .i64 b] w fun e w' => ∃ (x y : Dv) (B : Nat), e = .returned (.agg #[.bool x.s, .slice x.A x.n x.c, .int .i64 x.e, .bool y.s, .slice y.A y.n y.c, .int .i64 y.e]) ∧ Is (whole a) x ∧ Is (whole b) y ∧ Below w.heap.size w w' ∧ w.heap.size ≤ B ∧ B ≤ w'.heap.size ∧ DRow w' w.heap.size B x ∧ DRow w' B w'.heap.size y := by
 obtain ⟨w1, hw, bT, j1, S1⟩ := alloc_zt w
 obtain ⟨sa, hsa⟩ : ∃ s, decide (a < 0) = s := ⟨_, rfl⟩
 obtain ⟨sb, hsb⟩ : ∃ s, decide (b < 0) = s := ⟨_, rfl⟩
 have HA := Lib.hid hsa
 have HB := Lib.hid hsb
 clear hsa hsb
 go_enter Tryz.func81, Tryz.ntmps81
 go_wp2_with fail
 refine (Of_any w1 a ha.1 ha.2 sa a.natAbs HA.out rfl).mono ?_
 rintro e' w2 ⟨A1, n1, rfl, j2, I1⟩
 go_wp2_with fail
 refine (Of_any w2 b hb.1 hb.2 sb b.natAbs HB.out rfl).mono ?_
 rintro e' w3 ⟨A2, n2, rfl, j3, I2⟩
 obtain ⟨x, hx⟩ : ∃ x : Dv, x = ⟨sa, A1, n1, n1, 0, canon 4294967296 a.natAbs⟩ := ⟨_, rfl⟩
 obtain ⟨y, hy⟩ : ∃ y : Dv, y = ⟨sb, A2, n2, n2, 0, canon 4294967296 b.natAbs⟩ := ⟨_, rfl⟩
 have s1 := j1.size
 have s2 := j2.size
 have s3 := j3.size
 have ia : Is (whole a) x := by rw [hx, whole, HA.out]; exact ⟨rfl, rfl, rfl⟩
 have ib : Is (whole b) y := by rw [hy, whole, HB.out]; exact ⟨rfl, rfl, rfl⟩
 have rx : DRow w3 (w.heap.size + 1) w2.heap.size x := by rw [hx]; exact (I1.below j3 (Nat.le_refl _)).more (by omega) (Nat.le_refl _)
 have ry : DRow w3 w2.heap.size w3.heap.size y := by rw [hy]; exact I2
 have bT3 : TBox w3 w.heap.size ZDv ZDv := (j3.block _ (by omega)).trans ((j2.block _ S1).trans bT)
 have b3 := (j1.trans (j2.mono (by omega))).trans (j3.mono (by omega))
 clear I1 I2 HA HB
 obtain ⟨U, hU, bU, hb_, hf_, l1, l2⟩ := told_into bT3 x y
 have th := TBox.there bT3
 rw [hx, hy] at hU
 replace hU : w3.setCells w.heap.size 0 (#[.bool sa, .slice A1 n1 n1, .int .i64 0, .bool sb, .slice A2 n2 n2, .int .i64 0] : Array Value).toList = U := hU
 have HU := Lib.hid hU
 clear hU
 go_wp2_with (first
  | (refine wpList_store_mid rfl 32 (.tmp 4) (.tmp 9) rfl w.heap.size 0 #[.bool sa, .slice A1 n1 n1, .int .i64 0, .bool sb, .slice A2 n2 n2, .int .i64 0] rfl rfl th (by kernel_rfl) (all_oneCell_toArray (cells6D_one ⟨sa, A1, n1, n1, 0, []⟩ ⟨sb, A2, n2, n2, 0, []⟩)) ?_; rw [HU.out]))
 have fin := hb_ _ _ b3 (Nat.le_refl _)
 have rx' := (intsR rx (w' := U) fun b h1 h2 => hf_ b (by omega)).more (lo' := w.heap.size) (hi' := w2.heap.size) (by omega) (Nat.le_refl _)
 have ry' := (intsR ry (w' := U) fun b h1 h2 => hf_ b (by omega)).more (lo' := w2.heap.size) (hi' := U.heap.size) (Nat.le_refl _) (by omega)
 exact bodyPost_ret (results_cell_row Tryz.results81 _ _ w.heap.size 32 #[.bool x.s, .slice x.A x.n x.c, .int .i64 x.e, .bool y.s, .slice y.A y.n y.c, .int .i64 y.e] (0, 0) _ rfl bU Tryz.underlying32 rfl (by kernel_rfl)) rfl ⟨x, y, w2.heap.size, rfl, ia, ib, fin, by omega, by omega, rx', ry'⟩
end Ma
end Go.Proofs.YtmbppgjhdcmckaaGreatDoor
namespace Go.Proofs.YtmbppgjhdcmckaaGreatDoor
open Go.RowKit
namespace Ma
open Dp Dy
/-- What count tells: an average of 1, at one of them. -/
noncomputable def countX (c : Dv) : Dn × Dn × Int :=
 if aboveV c = false then (Dn.zero, Dn.zero, 6) else
 if (nearX false (canon 4294967296 1) 0 c.s c.xs c.e).2 = 0 then ((nearX false (canon 4294967296 1) 0 c.s c.xs c.e).1, (nearX false (canon 4294967296 1) 0 c.s c.xs c.e).1, 0)
 else (Dn.zero, Dn.zero, (nearX false (canon 4294967296 1) 0 c.s c.xs c.e).2)
/-- What ends tells. -/
def endsX (h : Bool) (mn mx : Int) : Dn × Dn × Int := if h = false then (Dn.zero, Dn.zero, 6) else (whole mn, whole mx, 0)
/-- A function value that tells. -/
def Tells (F : FuncId) (w : World) (T : Dn × Dn × Int) (v : Value) : Prop :=
 ∃ (cs : Array Value), v = .func (.func F) #[] cs ∧ ∀ w', Below w.heap.size w w' → Calls Tryz.prog F cs w' (ToldR w' T.1 T.2.1 T.2.2)
theorem nearX_may {s1 : Bool} {xs1 : List Int} {e1 : Int} {s2 : Bool} {xs2 : List Int} {e2 : Int} {x : Dn} {c : Int} (h : nearX s1 xs1 e1 s2 xs2 e2 = (x, c)) : x.May := by
 unfold nearX at h
 split at h
 · have := formed_may (dn s1 xs1 e1).neg ((quoN (dn s1 xs1 e1) (dn s2 xs2 e2) 1).1 / 2 + if (quoN (dn s1 xs1 e1) (dn s2 xs2 e2) 1).1 % 2 = 1 ∧ ((dn s1 xs1 e1).neg = false ∨ (quoN (dn s1 xs1 e1) (dn s2 xs2 e2) 1).2 ≠ 0) then 1 else 0) 0
   unfold nearD at h
   rw [h] at this
   exact this
 · injection h with h _
   subst h
   exact zero_may
theorem drow_on {w w' : World} {x : Dv} (h : DRow w 0 w.heap.size x) (hb : Below w.heap.size w w') : DRow w' 0 w'.heap.size x := ints_on h hb
theorem told_zero (w : World) (code : Int) (w' : World) (b : Below w.heap.size w w') : ToldR w Dn.zero Dn.zero code (.returned (.tuple #[.agg #[.bool false, .slice none 0 0, .int .i64 0, .bool false, .slice none 0 0, .int .i64 0], .int .i64 code])) w' :=
 ⟨ZDv, ZDv, w.heap.size, rfl, isZ, isZ, b, Nat.le_refl _, b.size, rowZ _ _ _, rowZ _ _ _⟩
set_option maxHeartbeats 12800000 in
set_option maxRecDepth 100000 in
/-- query.count's own function. -/
theorem count1_any (w : World) (g : Nat) (hg : g < w.heap.size) (c : Dv) (hQ : QBox w g c) (hR : DRow w 0 w.heap.size c) (lo hi : Dn) (code : Int) (h : countX c = (lo, hi, code)) :
  Calls Tryz.prog 70 #[.pointer (some ⟨g, 0, none⟩)] w (ToldR w lo hi code) := by
 obtain ⟨w1, hw, bT, j1, S1⟩ := alloc_zt w
 obtain ⟨a, ha⟩ : ∃ a, aboveV c = a := ⟨_, rfl⟩
 have HA := Lib.hid ha
 obtain ⟨r, k, hr⟩ : ∃ r k, nearX false (canon 4294967296 1) 0 c.s c.xs c.e = (r, k) := ⟨_, _, rfl⟩
 unfold countX at h
 rw [ha, hr] at h
 have HR := Lib.hid hr
 have HH := Lib.hid h
 clear ha hr h
 go_enter Tryz.func70, Tryz.ntmps70
 have rQ : w1.rangeAt (g) 0 [.bool c.s, .slice c.A c.n c.c, .int .i64 c.e] := QBox.range (x := c) (box_later hQ j1 hg)
 go_wp2_with (first | (refine wpList_load_mid rfl 24 (.tmp 0) rfl (g) 0 rfl [.bool c.s, .slice c.A c.n c.c, .int .i64 c.e] _ rQ Tryz.underlying24 rfl (by kernel_rfl) ?_))
 clear rQ
 refine (above_any w1 c a HA.out).mono ?_
 rintro e' v1 ⟨rfl, j2⟩
 try clear hw
 cases a
 · skip
   have HH := HH.out
   rw [if_pos rfl] at HH
   injection HH with h1 h2
   injection h2 with h2 h3
   subst h1 h2 h3
   clear HA HR
   have bz_ : TBox v1 w.heap.size ZDv ZDv := (box_later bT j2 S1)
   obtain ⟨U_, hU_, bU_, hb_, hf_, l5_, l5'_⟩ := told_into bz_ ZDv ZDv
   have th_ := TBox.there bz_
   replace hU_ : v1.setCells (w.heap.size) 0 (#[.bool false, .slice none 0 0, .int .i64 0, .bool false, .slice none 0 0, .int .i64 0] : Array Value).toList = U_ := hU_
   have HU_ := Lib.hid hU_
   clear hU_
   have fin_ := hb_ _ _ (later j1 j2) (by omega)
   go_wp2_with (first | (refine wpList_store_mid rfl 32 (.tmp 1) (.tmp 6) rfl w.heap.size 0 #[.bool false, .slice none 0 0, .int .i64 0, .bool false, .slice none 0 0, .int .i64 0] rfl rfl th_ (by kernel_rfl) (all_oneCell_toArray (cells6D_one ZDv ZDv)) ?_; rw [HU_.out]))
   exact bodyPost_ret (results_row_slot Tryz.results70 _ _ w.heap.size 32 #[.bool false, .slice none 0 0, .int .i64 0, .bool false, .slice none 0 0, .int .i64 0] (0, 0) _ (.int .i64 6) rfl rfl bU_ Tryz.underlying32 rfl (by kernel_rfl)) rfl (told_zero _ _ _ fin_)
 · skip
   have HH2 := Lib.hid (show (if k = 0 then (r, r, (0 : Int)) else (Dn.zero, Dn.zero, k)) = (lo, hi, code) by have := HH.out; rw [if_neg (by decide)] at this; exact this)
   clear HH HA
   go_wp2_with fail
   try clear hw
   refine region_E (Keeps v1) [7] (m := 9) (L := #[zF,zF,zF,zF,zF,zF,zF,zF,zF]) (by kernel_rfl) (by rfl) (by rfl) ?_
   have j4 : Below v1.heap.size v1 v1.drew := (Below.refl _ _).drew
   generalize v1.drew = v3 at *
   have kpy5 : Keeps v1 v3 := fun p hp => Below.block j4 p hp
   refine readE (i := 1) (L := #[zF,zT,zF,zF,zF,zF,zF,zF,zF]) (v := .agg #[.bool c.s, .slice c.A c.n c.c, .int .i64 c.e]) rfl (by rfl) (by kernel_rfl) (by kernel_rfl) (by kernel_rfl) (fun _ _ _ h => h) (by assumption) (by rfl) ?y5 ?z6
   case y5 =>
    intro w' h1
    exact run_load_op 24 (.tmp 0) rfl g 0 rfl [.bool c.s, .slice c.A c.n c.c, .int .i64 c.e] _ (QBox.range (x := c) ((h1 _ (Nat.lt_of_lt_of_le hg (Below.size (later j1 j2)))).trans (box_later hQ (later j1 j2) hg))) Tryz.underlying24 rfl (by kernel_rfl)
   try simp only [Act.put, zp]
   refine stepK (i := 0) (L := #[zT,zT,zF,zF,zF,zF,zF,zF,zF]) rfl (by rfl) (by kernel_rfl) (by rfl) (fun K hK => ?_)
   go_simp
   go_at_call 19
   refine (Of_any v3 1 (by decide) (by decide) false 1 rfl rfl).mono ?_
   rintro e' v7 ⟨A1, n1, rfl, j8, I1⟩
   refine hK _ _ ⟨fun _ _ => fun p hp => Below.block (later j4 j8) p hp, ?_⟩
   clear hK K
   try simp only [Act.put, zp]
   have I1' := I1.more (Nat.zero_le _) (Nat.le_refl _)
   refine stepK (i := 2) (L := #[zT,zT,zT,zF,zF,zF,zF,zF,zF]) rfl (by rfl) (by kernel_rfl) (by rfl) (fun K hK => ?_)
   go_simp
   go_at_call 72
   refine (near_all v7 false c.s A1 c.A n1 n1 c.n c.c _ c.xs 0 c.e I1' (ints_on hR (later j1 (later j2 (later j4 j8)))) r k HR.out).mono ?_
   rintro e' v9 ⟨A2, n2, c2, rfl, hnc, j10, I2⟩
   refine hK _ _ ⟨fun _ _ => fun p hp => Below.block (later j4 (later j8 j10)) p hp, ?_⟩
   clear hK K
   try simp only [Act.put, zp]
   refine zE 3 #[zT,zT,zT,zT,zF,zF,zF,zF,zF] ?_ rfl ?hy4 ?rest4
   case hy4 => intro w; go_simp; (try with_reducible rfl)
   try simp only [Act.put, zp]
   refine zE 4 #[zT,zT,zT,zT,zT,zF,zF,zF,zF] ?_ rfl ?hy5 ?rest5
   case hy5 => intro w; go_simp; (try with_reducible rfl)
   try simp only [Act.put, zp]
   refine zE 5 #[zT,zT,zT,zT,zT,zT,zF,zF,zF] ?_ rfl ?hy6 ?rest6
   case hy6 => intro w; go_simp; (try with_reducible rfl)
   try simp only [Act.put, zp]
   refine zE 6 #[zT,zT,zT,zT,zT,zT,zT,zF,zF] ?_ rfl ?hy7 ?rest7
   case hy7 => intro w; go_simp; (try with_reducible rfl)
   try simp only [Act.put, zp]
   have sz1_ := Below.size (later j2 (later j4 (later j8 j10)))
   have hT_ : TBox v9 w.heap.size ZDv ZDv := (box_later bT (later j2 (later j4 (later j8 j10))) S1)
   have b0_ := (later j1 (later j2 (later j4 (later j8 j10))))
   obtain ⟨U11, hU_, bTU11, hb_, hf_, l5_, l5'_⟩ := low_into hT_ ⟨r.neg, A2, n2, c2, r.e, canon 4294967296 r.m⟩
   have th_ := TBox.thereL hT_
   refine stepK (i := 7) (L := #[zT,zT,zT,zT,zT,zT,zT,zT,zF]) rfl (by rfl) (by kernel_rfl) (by rfl) (fun K hK => ?_)
   refine wp_store_mid 24 (.tmp 13) (.tmp 11) rfl w.heap.size 0 #[.bool r.neg, .slice A2 n2 c2, .int .i64 r.e] rfl rfl th_ (by kernel_rfl) (all_oneCell_toArray (cells3D_one ⟨r.neg, A2, n2, c2, r.e, canon 4294967296 r.m⟩)) ?_
   rw [show v9.setCells w.heap.size 0 (#[.bool r.neg, .slice A2 n2 c2, .int .i64 r.e] : Array Value).toList = U11 from hU_]
   clear hU_ th_
   refine hK _ _ ⟨fun h => absurd h (by decide), ?_⟩
   clear hK K
   try simp only [Act.put]
   have bU11 := hb_ _ _ b0_ (by omega)
   clear hT_ hb_ b0_
   refine zE 8 #[zT,zT,zT,zT,zT,zT,zT,zT,zT] ?_ rfl ?hy9 ?rest9
   case hy9 => intro w; go_simp; (try with_reducible rfl)
   try simp only [Act.put, zp]
   refine doneE (by kernel_rfl) ?_ _
   have sz0_ := Below.size (later j2 (later j4 j8))
   have sz2_ := Below.size j10
   obtain ⟨lo1, hlo1⟩ : ∃ n, v7.heap.size = n := ⟨_, rfl⟩
   have l1 : w.heap.size < lo1 := by omega
   obtain ⟨x, hx⟩ : ∃ x : Dv, x = ⟨r.neg, A2, n2, c2, r.e, canon 4294967296 r.m⟩ := ⟨_, rfl⟩
   have bX : TBox U11 w.heap.size x ZDv := by rw [hx]; exact bTU11
   have ix : Is r x := by rw [hx]; exact ⟨rfl, rfl, rfl⟩
   have rx : DRow U11 lo1 U11.heap.size x := by rw [hx, ← hlo1]; exact (intsR I2 (fun b h1 h2 => hf_ b (by omega))).more (Nat.le_refl _) l5'_
   have l2 : lo1 ≤ U11.heap.size := by omega
   clear hx bTU11 hf_ hlo1
   by_cases hk : k = 0
   rotate_left
   · skip
     have HH := HH2.out
     rw [if_neg hk] at HH
     injection HH with h1 h2
     injection h2 with h2 h3
     subst h1 h2 h3
     have n0 : (k != 0) = true := by simpa using hk
     clear HH2 HR
     obtain ⟨U_, hU_, bU_, hb_, hf_, l7_, l7'_⟩ := told_into bX ZDv ZDv
     have th_ := TBox.there bX
     replace hU_ : U11.setCells w.heap.size 0 (#[.bool false, .slice none 0 0, .int .i64 0, .bool false, .slice none 0 0, .int .i64 0] : Array Value).toList = U_ := hU_
     have HU_ := Lib.hid hU_
     clear hU_
     have fin_ := hb_ _ _ bU11 (by omega)
     go_wp2_with (first | (refine wpList_store_mid rfl 32 (.tmp 1) (.tmp 16) rfl w.heap.size 0 #[.bool false, .slice none 0 0, .int .i64 0, .bool false, .slice none 0 0, .int .i64 0] rfl rfl th_ (by kernel_rfl) (all_oneCell_toArray (cells6D_one ZDv ZDv)) ?_; rw [HU_.out]))
     exact bodyPost_ret (results_row_slot Tryz.results70 _ _ w.heap.size 32 #[.bool false, .slice none 0 0, .int .i64 0, .bool false, .slice none 0 0, .int .i64 0] (0, 0) _ (.int .i64 k) rfl rfl bU_ Tryz.underlying32 rfl (by kernel_rfl)) rfl (told_zero _ _ _ fin_)
   · skip
     have HH := HH2.out
     rw [if_pos hk] at HH
     injection HH with h1 h2
     injection h2 with h2 h3
     subst h1 h2 h3 hk
     have rlo := TBox.low bX
     have hbig : x.n ≤ 1000000 := by
      have := ints_may (a := r) (by rw [← ix.2.2]; exact rx) (nearX_may HR.out)
      omega
     clear HH2 HR
     go_wp2_with (first | (refine wpList_load_mid rfl 24 (.tmp 18) rfl w.heap.size 0 rfl [.bool x.s, .slice x.A x.n x.c, .int .i64 x.e] _ rlo Tryz.underlying24 rfl (by kernel_rfl) ?_))
     refine (Pa.dyadTwin_any U11 x.s x.A x.n x.c x.xs x.e (rx.more (Nat.zero_le _) (Nat.le_refl _)) hbig).mono ?_
     rintro e' u2 ⟨A3, c3, rfl, hc3, j3, _, I3⟩
     clear rlo
     have sz2_ := Below.size bU11
     have sz3_ := Below.size j3
     have bX2 : TBox u2 w.heap.size x ZDv := (j3.block _ (by omega)).trans bX
     obtain ⟨y, hy⟩ : ∃ y : Dv, y = ⟨x.s, A3, x.n, c3, x.e, x.xs⟩ := ⟨_, rfl⟩
     obtain ⟨U2, hU2, bY, hb2, hf2, l7_, l7'_⟩ := high_into bX2 ⟨x.s, A3, x.n, c3, x.e, x.xs⟩
     have bXY : TBox U2 w.heap.size x y := by rw [hy]; exact bY
     have iy : Is r y := by rw [hy]; exact ix
     have b2 := hb2 _ _ (bU11.trans (j3.mono (by omega))) (by omega)
     have ry2 : DRow U2 U11.heap.size U2.heap.size y := by rw [hy]; exact (intsR I3 (fun b h1 h2 => hf2 b (by omega))).more (by omega) (by omega)
     have rx3 : DRow U2 lo1 U11.heap.size x := intsR rx (w' := U2) (fun b h1 h2 => (hf2 b (by omega)).trans (j3.block b (by omega)))
     have thH := TBox.thereH bX2
     replace hU2 : u2.setCells w.heap.size 3 (#[.bool x.s, .slice A3 x.n c3, .int .i64 x.e] : Array Value).toList = U2 := hU2
     have HU2 := Lib.hid hU2
     clear hU2 bY hy bX hb2
     have rxy := TBox.range bXY
     obtain ⟨U3, hU3, bF, hb3, hf3, l8_, l8'_⟩ := told_into bXY x y
     have th3 := TBox.there bXY
     replace hU3 : U2.setCells w.heap.size 0 (#[.bool x.s, .slice x.A x.n x.c, .int .i64 x.e, .bool y.s, .slice y.A y.n y.c, .int .i64 y.e] : Array Value).toList = U3 := hU3
     have HU3 := Lib.hid hU3
     clear hU3
     go_wp2_with (first
      | (refine wpList_store_mid rfl 24 (.tmp 21) (.tmp 20) rfl w.heap.size 3 #[.bool x.s, .slice A3 x.n c3, .int .i64 x.e] rfl rfl thH (by kernel_rfl) (all_oneCell_toArray (cells3D_one ⟨x.s, A3, x.n, c3, x.e, x.xs⟩)) ?_; rw [HU2.out])
      | (refine wpList_load_mid rfl 32 (.tmp 1) rfl w.heap.size 0 rfl [.bool x.s, .slice x.A x.n x.c, .int .i64 x.e, .bool y.s, .slice y.A y.n y.c, .int .i64 y.e] _ rxy Tryz.underlying32 rfl (by kernel_rfl) ?_)
      | (refine wpList_store_mid rfl 32 (.tmp 1) (.tmp 22) rfl w.heap.size 0 #[.bool x.s, .slice x.A x.n x.c, .int .i64 x.e, .bool y.s, .slice y.A y.n y.c, .int .i64 y.e] rfl rfl th3 (by kernel_rfl) (all_oneCell_toArray (cells6D_one x y)) ?_; rw [HU3.out]))
     have fin := hb3 _ _ b2 (by omega)
     have rx4 : DRow U3 w.heap.size U11.heap.size x := (intsR rx3 (w' := U3) (fun b h1 h2 => hf3 b (by omega))).more (by omega) (Nat.le_refl _)
     exact bodyPost_ret (results_row_slot Tryz.results70 _ _ w.heap.size 32 #[.bool x.s, .slice x.A x.n x.c, .int .i64 x.e, .bool y.s, .slice y.A y.n y.c, .int .i64 y.e] (0, 0) _ (.int .i64 0) rfl rfl bF Tryz.underlying32 rfl (by kernel_rfl)) rfl ⟨x, y, U11.heap.size, rfl, ix, iy, fin, by omega, by omega, rx4, (intsR ry2 (fun b h1 h2 => hf3 b (by omega))).more (Nat.le_refl _) (by omega)⟩
end Ma
end Go.Proofs.YtmbppgjhdcmckaaGreatDoor
namespace Go.Proofs.YtmbppgjhdcmckaaGreatDoor
open Go.RowKit
namespace Ma
open Dp Dy
/-- What parts tells: a quotient, down and up. -/
noncomputable def partsX (a b : Dv) (k : Int) : Dn × Dn × Int :=
 if aboveV b = false then (Dn.zero, Dn.zero, 6) else
 if (toX a.s a.xs a.e b.s b.xs b.e k a.s).2 ≠ 0 then (Dn.zero, Dn.zero, (toX a.s a.xs a.e b.s b.xs b.e k a.s).2) else
 if (toX a.s a.xs a.e b.s b.xs b.e k (!a.s)).2 ≠ 0 then (Dn.zero, Dn.zero, (toX a.s a.xs a.e b.s b.xs b.e k (!a.s)).2) else
 ((toX a.s a.xs a.e b.s b.xs b.e k a.s).1, (toX a.s a.xs a.e b.s b.xs b.e k (!a.s)).1, 0)
set_option maxHeartbeats 12800000 in
set_option maxRecDepth 100000 in
/-- query.parts' own function. -/
theorem parts1_any (w : World) (ga gb gk : Nat) (hga : ga < w.heap.size) (hgb : gb < w.heap.size) (hgk : gk < w.heap.size) (a b : Dv) (k : Int) (hA : QBox w ga a) (hB : QBox w gb b) (hK : w.heap[gk]? = some (.cells #[.int .i64 k] 3 (0, 0)))
  (hRa : DRow w 0 w.heap.size a) (hRb : DRow w 0 w.heap.size b) (lo hi : Dn) (code : Int) (h : partsX a b k = (lo, hi, code)) :
  Calls Tryz.prog 74 #[.pointer (some ⟨gb, 0, none⟩), .pointer (some ⟨ga, 0, none⟩), .pointer (some ⟨gk, 0, none⟩)] w (ToldR w lo hi code) := by
 obtain ⟨w1, hw, bT, j1, S1⟩ := alloc_zt w
 obtain ⟨v, hv⟩ : ∃ v, aboveV b = v := ⟨_, rfl⟩
 have HA := Lib.hid hv
 obtain ⟨r1, k1, hr1⟩ : ∃ r k', toX a.s a.xs a.e b.s b.xs b.e k a.s = (r, k') := ⟨_, _, rfl⟩
 obtain ⟨r2, k2, hr2⟩ : ∃ r k', toX a.s a.xs a.e b.s b.xs b.e k (!a.s) = (r, k') := ⟨_, _, rfl⟩
 unfold partsX at h
 rw [hv, hr1, hr2] at h
 have HR1 := Lib.hid hr1
 have HR2 := Lib.hid hr2
 have HH := Lib.hid h
 clear hv hr1 hr2 h
 go_enter Tryz.func74, Tryz.ntmps74
 have rB : w1.rangeAt (gb) 0 [.bool b.s, .slice b.A b.n b.c, .int .i64 b.e] := QBox.range (x := b) (box_later hB j1 hgb)
 go_wp2_with (first | (refine wpList_load_mid rfl 24 (.tmp 0) rfl (gb) 0 rfl [.bool b.s, .slice b.A b.n b.c, .int .i64 b.e] _ rB Tryz.underlying24 rfl (by kernel_rfl) ?_))
 clear rB
 refine (above_any w1 b v HA.out).mono ?_
 rintro e' v1 ⟨rfl, j2⟩
 try clear hw
 cases v
 · skip
   have HH := HH.out
   rw [if_pos rfl] at HH
   injection HH with h1 h2
   injection h2 with h2 h3
   subst h1 h2 h3
   clear HA HR1 HR2
   have bz_ : TBox v1 w.heap.size ZDv ZDv := (box_later bT j2 S1)
   obtain ⟨U_, hU_, bU_, hb_, hf_, l5_, l5'_⟩ := told_into bz_ ZDv ZDv
   have th_ := TBox.there bz_
   replace hU_ : v1.setCells (w.heap.size) 0 (#[.bool false, .slice none 0 0, .int .i64 0, .bool false, .slice none 0 0, .int .i64 0] : Array Value).toList = U_ := hU_
   have HU_ := Lib.hid hU_
   clear hU_
   have fin_ := hb_ _ _ (later j1 j2) (by omega)
   go_wp2_with (first | (refine wpList_store_mid rfl 32 (.tmp 3) (.tmp 8) rfl w.heap.size 0 #[.bool false, .slice none 0 0, .int .i64 0, .bool false, .slice none 0 0, .int .i64 0] rfl rfl th_ (by kernel_rfl) (all_oneCell_toArray (cells6D_one ZDv ZDv)) ?_; rw [HU_.out]))
   exact bodyPost_ret (results_row_slot Tryz.results74 _ _ w.heap.size 32 #[.bool false, .slice none 0 0, .int .i64 0, .bool false, .slice none 0 0, .int .i64 0] (0, 0) _ (.int .i64 6) rfl rfl bU_ Tryz.underlying32 rfl (by kernel_rfl)) rfl (told_zero _ _ _ fin_)
 · skip
   replace HH := Lib.hid (show (if k1 ≠ 0 then (Dn.zero, Dn.zero, k1) else if k2 ≠ 0 then (Dn.zero, Dn.zero, k2) else (r1, r2, (0 : Int))) = (lo, hi, code) by have := HH.out; rw [if_neg (by decide)] at this; exact this)
   clear HA
   have rA1 : v1.rangeAt (ga) 0 [.bool a.s, .slice a.A a.n a.c, .int .i64 a.e] := QBox.range (x := a) (box_later hA (later j1 j2) hga)
   have rB1 : v1.rangeAt (gb) 0 [.bool b.s, .slice b.A b.n b.c, .int .i64 b.e] := QBox.range (x := b) (box_later hB (later j1 j2) hgb)
   have kk1 := cell_of_row v1 gk 0 _ _ _ (box_later hK (later j1 j2) hgk)
   replace kk1 : v1.cell? ⟨gk, 0, none⟩ = some (.int .i64 k) := kk1
   go_wp2_with (first
    | (refine wpList_load_mid rfl 24 (.tmp 1) rfl (ga) 0 rfl [.bool a.s, .slice a.A a.n a.c, .int .i64 a.e] _ rA1 Tryz.underlying24 rfl (by kernel_rfl) ?_)
    | (refine wpList_load_mid rfl 24 (.tmp 0) rfl (gb) 0 rfl [.bool b.s, .slice b.A b.n b.c, .int .i64 b.e] _ rB1 Tryz.underlying24 rfl (by kernel_rfl) ?_))
   refine (Floor_all v1 a.s b.s a.A b.A a.n a.c b.n b.c a.xs b.xs a.e b.e (ints_on hRa (later j1 j2)) (ints_on hRb (later j1 j2)) k r1 k1 HR1.out).mono ?_
   rintro e' v3 ⟨A1, n1, c1, rfl, _, j4, I1⟩
   try clear hw
   clear rA1 rB1 kk1
   have sa1 := Below.size j2
   have sb1 := Below.size j4
   have hT1 : TBox v3 w.heap.size ZDv ZDv := (box_later bT (later j2 j4) S1)
   obtain ⟨U1, hU1, bV1, hb1, hf1, la1, lb1⟩ := low_into hT1 ⟨r1.neg, A1, n1, c1, r1.e, canon 4294967296 r1.m⟩
   have th1 := TBox.thereL hT1
   replace hU1 : v3.setCells w.heap.size 0 (#[.bool r1.neg, .slice A1 n1 c1, .int .i64 r1.e] : Array Value).toList = U1 := hU1
   have HU1 := Lib.hid hU1
   clear hU1
   obtain ⟨x, hx1⟩ : ∃ x : Dv, x = ⟨r1.neg, A1, n1, c1, r1.e, canon 4294967296 r1.m⟩ := ⟨_, rfl⟩
   have ix1 : Is r1 x := by rw [hx1]; exact ⟨rfl, rfl, rfl⟩
   obtain ⟨lo1, hlo1⟩ : ∃ n, v1.heap.size = n := ⟨_, rfl⟩
   have lc1 : w.heap.size < lo1 := by omega
   have rx1 : DRow U1 lo1 U1.heap.size x := by rw [hx1, ← hlo1]; exact (intsR I1 (fun b h1 h2 => hf1 b (by omega))).more (Nat.le_refl _) lb1
   have bb1 := hb1 _ _ (later j1 (later j2 j4)) (by omega)
   have bX : TBox U1 w.heap.size x ZDv := by rw [hx1]; exact bV1
   have la : lo1 ≤ U1.heap.size := by omega
   have kA1 : QBox U1 ga a := (hf1 _ (by omega)).trans (box_later hA (later j1 (later j2 j4)) hga)
   have kB1 : QBox U1 gb b := (hf1 _ (by omega)).trans (box_later hB (later j1 (later j2 j4)) hgb)
   have kK1 : U1.heap[gk]? = some (.cells #[.int .i64 k] 3 (0, 0)) := (hf1 _ (by omega)).trans (box_later hK (later j1 (later j2 j4)) hgk)
   have kRa1 : DRow U1 0 U1.heap.size a := ints_on hRa (hb1 _ _ (later j1 (later j2 j4)) (Nat.le_refl _))
   have kRb1 : DRow U1 0 U1.heap.size b := ints_on hRb (hb1 _ _ (later j1 (later j2 j4)) (Nat.le_refl _))
   clear hx1 bV1 hlo1 hb1
   replace hA := kA1
   replace hB := kB1
   replace hK := kK1
   replace hRa := kRa1
   replace hRb := kRb1
   replace bT := bX
   clear kA1 kB1 kK1 kRa1 kRb1 bX
   by_cases e1 : k1 = 0
   rotate_left
   · skip
     have HH := HH.out
     rw [if_pos e1] at HH
     injection HH with h1 h2
     injection h2 with h2 h3
     subst h1 h2 h3
     clear HR1 HR2
     have n0 : (k1 != 0) = true := by simpa using e1
     clear e1
     obtain ⟨U_, hU_, bU_, hb_, hf_, l5_, l5'_⟩ := told_into (show TBox U1 w.heap.size x ZDv from bT) ZDv ZDv
     have th_ := TBox.there (show TBox U1 w.heap.size x ZDv from bT)
     replace hU_ : U1.setCells w.heap.size 0 (#[.bool false, .slice none 0 0, .int .i64 0, .bool false, .slice none 0 0, .int .i64 0] : Array Value).toList = U_ := hU_
     have HU_ := Lib.hid hU_
     clear hU_
     have fin_ := hb_ _ _ bb1 (by omega)
     go_wp2_with (first
      | (refine wpList_store_mid rfl 24 (.tmp 16) (.tmp 14) rfl w.heap.size 0 #[.bool r1.neg, .slice A1 n1 c1, .int .i64 r1.e] rfl rfl th1 (by kernel_rfl) (all_oneCell_toArray (cells3D_one ⟨r1.neg, A1, n1, c1, r1.e, canon 4294967296 r1.m⟩)) ?_; rw [HU1.out])
      | (refine wpList_store_mid rfl 32 (.tmp 3) (.tmp 19) rfl w.heap.size 0 #[.bool false, .slice none 0 0, .int .i64 0, .bool false, .slice none 0 0, .int .i64 0] rfl rfl th_ (by kernel_rfl) (all_oneCell_toArray (cells6D_one ZDv ZDv)) ?_; rw [HU_.out]))
     exact bodyPost_ret (results_row_slot Tryz.results74 _ _ w.heap.size 32 #[.bool false, .slice none 0 0, .int .i64 0, .bool false, .slice none 0 0, .int .i64 0] (0, 0) _ (.int .i64 k1) rfl rfl bU_ Tryz.underlying32 rfl (by kernel_rfl)) rfl (told_zero _ _ _ fin_)
   · skip
     replace HH := Lib.hid (show (if k2 ≠ 0 then (Dn.zero, Dn.zero, k2) else (r1, r2, (0 : Int))) = (lo, hi, code) by have := HH.out; rw [if_neg (by omega)] at this; exact this)
     subst e1
     have rA2 : U1.rangeAt (ga) 0 [.bool a.s, .slice a.A a.n a.c, .int .i64 a.e] := QBox.range (x := a) hA
     have rB2 : U1.rangeAt (gb) 0 [.bool b.s, .slice b.A b.n b.c, .int .i64 b.e] := QBox.range (x := b) hB
     have kk2 := cell_of_row U1 gk 0 _ _ _ hK
     replace kk2 : U1.cell? ⟨gk, 0, none⟩ = some (.int .i64 k) := kk2
     try skip
     go_wp2_with (first
      | (refine wpList_load_mid rfl 24 (.tmp 1) rfl (ga) 0 rfl [.bool a.s, .slice a.A a.n a.c, .int .i64 a.e] _ rA2 Tryz.underlying24 rfl (by kernel_rfl) ?_)
      | (refine wpList_load_mid rfl 24 (.tmp 0) rfl (gb) 0 rfl [.bool b.s, .slice b.A b.n b.c, .int .i64 b.e] _ rB2 Tryz.underlying24 rfl (by kernel_rfl) ?_)
      | (refine wpList_store_mid rfl 24 (.tmp 16) (.tmp 14) rfl w.heap.size 0 #[.bool r1.neg, .slice A1 n1 c1, .int .i64 r1.e] rfl rfl th1 (by kernel_rfl) (all_oneCell_toArray (cells3D_one ⟨r1.neg, A1, n1, c1, r1.e, canon 4294967296 r1.m⟩)) ?_; rw [HU1.out]))
     refine (Ceil_all U1 a.s b.s a.A b.A a.n a.c b.n b.c a.xs b.xs a.e b.e hRa hRb k r2 k2 HR2.out).mono ?_
     rintro e' v5 ⟨A2, n2, c2, rfl, _, j6, I2⟩
     try clear hw
     clear rA2 rB2 kk2
     have sq2 := Below.size j6
     have hT2 : TBox v5 w.heap.size x ZDv := (box_later bT j6 (show w.heap.size < U1.heap.size by omega))
     obtain ⟨U2, hU2, bV2, hb2, hf2, la2, lb2⟩ := high_into hT2 ⟨r2.neg, A2, n2, c2, r2.e, canon 4294967296 r2.m⟩
     have th2 := TBox.thereH hT2
     replace hU2 : v5.setCells w.heap.size 3 (#[.bool r2.neg, .slice A2 n2 c2, .int .i64 r2.e] : Array Value).toList = U2 := hU2
     have HU2 := Lib.hid hU2
     clear hU2
     obtain ⟨y, hx2⟩ : ∃ x : Dv, x = ⟨r2.neg, A2, n2, c2, r2.e, canon 4294967296 r2.m⟩ := ⟨_, rfl⟩
     have ix2 : Is r2 y := by rw [hx2]; exact ⟨rfl, rfl, rfl⟩
     have ry : DRow U2 U1.heap.size U2.heap.size y := by rw [hx2]; exact (intsR I2 (fun b h1 h2 => hf2 b (by omega))).more (Nat.le_refl _) lb2
     have rx : DRow U2 lo1 U1.heap.size x := intsR rx1 (w' := U2) (fun b h1 h2 => (hf2 b (by omega)).trans (j6.block b (by omega)))
     have bX : TBox U2 w.heap.size x y := by rw [hx2]; exact bV2
     have bb2 := hb2 _ _ (later bb1 j6) (by omega)
     clear hx2 bV2 hb2 hT2
     replace bT := bX
     clear bX
     by_cases e2 : k2 = 0
     rotate_left
     · skip
       have HH := HH.out
       rw [if_pos e2] at HH
       injection HH with h1 h2
       injection h2 with h2 h3
       subst h1 h2 h3
       clear HR1 HR2
       have n0 : (k2 != 0) = true := by simpa using e2
       clear e2
       obtain ⟨U_, hU_, bU_, hb_, hf_, l5_, l5'_⟩ := told_into (show TBox U2 w.heap.size x y from bT) ZDv ZDv
       have th_ := TBox.there (show TBox U2 w.heap.size x y from bT)
       replace hU_ : U2.setCells w.heap.size 0 (#[.bool false, .slice none 0 0, .int .i64 0, .bool false, .slice none 0 0, .int .i64 0] : Array Value).toList = U_ := hU_
       have HU_ := Lib.hid hU_
       clear hU_
       have fin_ := hb_ _ _ bb2 (by omega)
       go_wp2_with (first
        | (refine wpList_store_mid rfl 24 (.tmp 28) (.tmp 26) rfl w.heap.size 3 #[.bool r2.neg, .slice A2 n2 c2, .int .i64 r2.e] rfl rfl th2 (by kernel_rfl) (all_oneCell_toArray (cells3D_one ⟨r2.neg, A2, n2, c2, r2.e, canon 4294967296 r2.m⟩)) ?_; rw [HU2.out])
        | (refine wpList_store_mid rfl 32 (.tmp 3) (.tmp 31) rfl w.heap.size 0 #[.bool false, .slice none 0 0, .int .i64 0, .bool false, .slice none 0 0, .int .i64 0] rfl rfl th_ (by kernel_rfl) (all_oneCell_toArray (cells6D_one ZDv ZDv)) ?_; rw [HU_.out]))
       exact bodyPost_ret (results_row_slot Tryz.results74 _ _ w.heap.size 32 #[.bool false, .slice none 0 0, .int .i64 0, .bool false, .slice none 0 0, .int .i64 0] (0, 0) _ (.int .i64 k2) rfl rfl bU_ Tryz.underlying32 rfl (by kernel_rfl)) rfl (told_zero _ _ _ fin_)
     · skip
       have HH := HH.out
       rw [if_neg (by omega)] at HH
       injection HH with h1 h2
       injection h2 with h2 h3
       subst h1 h2 h3
       clear HR1 HR2
       subst e2
       have rxy := TBox.range bT
       obtain ⟨U3, hU3, bF, hb3, hf3, l8_, l8'_⟩ := told_into bT x y
       have th3 := TBox.there bT
       replace hU3 : U2.setCells w.heap.size 0 (#[.bool x.s, .slice x.A x.n x.c, .int .i64 x.e, .bool y.s, .slice y.A y.n y.c, .int .i64 y.e] : Array Value).toList = U3 := hU3
       have HU3 := Lib.hid hU3
       clear hU3
       go_wp2_with (first
        | (refine wpList_store_mid rfl 24 (.tmp 28) (.tmp 26) rfl w.heap.size 3 #[.bool r2.neg, .slice A2 n2 c2, .int .i64 r2.e] rfl rfl th2 (by kernel_rfl) (all_oneCell_toArray (cells3D_one ⟨r2.neg, A2, n2, c2, r2.e, canon 4294967296 r2.m⟩)) ?_; rw [HU2.out])
        | (refine wpList_load_mid rfl 32 (.tmp 3) rfl w.heap.size 0 rfl [.bool x.s, .slice x.A x.n x.c, .int .i64 x.e, .bool y.s, .slice y.A y.n y.c, .int .i64 y.e] _ rxy Tryz.underlying32 rfl (by kernel_rfl) ?_)
        | (refine wpList_store_mid rfl 32 (.tmp 3) (.tmp 33) rfl w.heap.size 0 #[.bool x.s, .slice x.A x.n x.c, .int .i64 x.e, .bool y.s, .slice y.A y.n y.c, .int .i64 y.e] rfl rfl th3 (by kernel_rfl) (all_oneCell_toArray (cells6D_one x y)) ?_; rw [HU3.out]))
       have fin := hb3 _ _ bb2 (by omega)
       have rx4 : DRow U3 w.heap.size U1.heap.size x := (intsR rx (w' := U3) (fun b h1 h2 => hf3 b (by omega))).more (by omega) (Nat.le_refl _)
       exact bodyPost_ret (results_row_slot Tryz.results74 _ _ w.heap.size 32 #[.bool x.s, .slice x.A x.n x.c, .int .i64 x.e, .bool y.s, .slice y.A y.n y.c, .int .i64 y.e] (0, 0) _ (.int .i64 0) rfl rfl bF Tryz.underlying32 rfl (by kernel_rfl)) rfl ⟨x, y, U1.heap.size, rfl, ix1, ix2, fin, by omega, by omega, rx4, (intsR ry (fun b h1 h2 => hf3 b (by omega))).more (Nat.le_refl _) (by omega)⟩
end Ma
end Go.Proofs.YtmbppgjhdcmckaaGreatDoor
namespace Go.Proofs.YtmbppgjhdcmckaaGreatDoor
open Go.RowKit
namespace Ma
open Dp Dy
theorem is_half {r : Dn} {d : Dv} (h : Is r d) (hr : r.May) : halfX d.s d.xs d.e = halfD r := by
 unfold halfX
 rw [if_pos (show MayD d.s d.xs d.e from h.may hr), h.1, h.2.1, h.2.2, dn_of]
/-- A quarter of a whole number. -/
def quarterD (z : Int) : Dn := (halfD (halfD (whole z)).1).1
/-- What guess tells. -/
def guessX (xs : List Int) : Dn × Dn × Int := if xs.length = 0 then (Dn.zero, Dn.zero, 6) else (quarterD (Least.guessS xs), quarterD (Least.guessS xs), 0)
def halves (z : Int) : Nat → Dn
 | 0 => whole z
 | i + 1 => (halfD (halves z i)).1
theorem halves_may {z : Int} (h0 : -9223372036854775808 ≤ z) (h1 : z ≤ 9223372036854775807) : ∀ i, (halves z i).May
 | 0 => whole_may h0 h1
 | _ + 1 => formed_may ..
theorem guessS_bound {xs : List Int} (hc : Least.checkCode xs = 0) (h0 : ∀ x ∈ xs, 0 ≤ x) : 0 ≤ Least.guessS xs ∧ Least.guessS xs ≤ 30064771072 := by
 unfold Least.guessS
 split
 · omega
 · next h8 =>
   have h7 := Least.seventh hc h8 h0
   refine ⟨Int.ediv_nonneg (by omega) (by omega), ?_⟩
   exact Int.ediv_le_self _ (by omega)
set_option maxHeartbeats 12800000 in
set_option maxRecDepth 100000 in
/-- query.ends' own function. -/
theorem ends1_any (w : World) (g : Nat) (hg : g < w.heap.size) (h : Bool) (mn mx : Int) (hE : w.heap[g]? = some (.cells #[.bool h, .int .i64 mn, .int .i64 mx] 28 (0, 0)))
  (hmn : -9223372036854775808 ≤ mn ∧ mn ≤ 9223372036854775807) (hmx : -9223372036854775808 ≤ mx ∧ mx ≤ 9223372036854775807) (lo hi : Dn) (code : Int) (hx : endsX h mn mx = (lo, hi, code)) :
  Calls Tryz.prog 77 #[.pointer (some ⟨g, 0, none⟩)] w (ToldR w lo hi code) := by
 obtain ⟨w1, hw, bT, j1, S1⟩ := alloc_zt w
 have k0 : w1.cell? ⟨g, 0, none⟩ = some (.bool h) := cell_of_row w1 g 0 _ _ _ (box_later hE j1 hg)
 have k1 : w1.cell? ⟨g, 1, none⟩ = some (.int .i64 mn) := cell_of_row w1 g 1 _ _ _ (box_later hE j1 hg)
 have k2 : w1.cell? ⟨g, 2, none⟩ = some (.int .i64 mx) := cell_of_row w1 g 2 _ _ _ (box_later hE j1 hg)
 have HX := Lib.hid hx
 clear hx
 cases h
 · skip
   have hx := HX.out
   unfold endsX at hx
   rw [if_pos rfl] at hx
   injection hx with h1 h2
   injection h2 with h2 h3
   subst h1 h2 h3
   clear HX
   go_enter Tryz.func77, Tryz.ntmps77
   have bz_ : TBox w1 w.heap.size ZDv ZDv := bT
   obtain ⟨U_, hU_, bU_, hb_, hf_, l5_, l5'_⟩ := told_into bz_ ZDv ZDv
   have th_ := TBox.there bz_
   replace hU_ : w1.setCells (w.heap.size) 0 (#[.bool false, .slice none 0 0, .int .i64 0, .bool false, .slice none 0 0, .int .i64 0] : Array Value).toList = U_ := hU_
   have HU_ := Lib.hid hU_
   clear hU_
   have fin_ := hb_ _ _ j1 (by omega)
   go_wp2_with (first | (refine wpList_store_mid rfl 32 (.tmp 1) (.tmp 6) rfl w.heap.size 0 #[.bool false, .slice none 0 0, .int .i64 0, .bool false, .slice none 0 0, .int .i64 0] rfl rfl th_ (by kernel_rfl) (all_oneCell_toArray (cells6D_one ZDv ZDv)) ?_; rw [HU_.out]))
   exact bodyPost_ret (results_row_slot Tryz.results77 _ _ w.heap.size 32 #[.bool false, .slice none 0 0, .int .i64 0, .bool false, .slice none 0 0, .int .i64 0] (0, 0) _ (.int .i64 6) rfl rfl bU_ Tryz.underlying32 rfl (by kernel_rfl)) rfl (told_zero _ _ _ fin_)
 · skip
   have hx := HX.out
   unfold endsX at hx
   rw [if_neg (by decide)] at hx
   injection hx with h1 h2
   injection h2 with h2 h3
   subst h1 h2 h3
   clear HX
   go_enter Tryz.func77, Tryz.ntmps77
   go_wp2_with fail
   refine (two_int w1 mn mx hmn hmx).mono ?_
   rintro e' u ⟨x, y, B, rfl, ix, iy, j2, l1, l2, rx, ry⟩
   clear k0 k1 k2
   try clear hw
   have bT2 : TBox u w.heap.size ZDv ZDv := (j2.block _ S1).trans bT
   have s1 := j1.size
   obtain ⟨U, hU, bU, hb, hf, l5, l6⟩ := told_into bT2 x y
   have th := TBox.there bT2
   replace hU : u.setCells w.heap.size 0 (#[.bool x.s, .slice x.A x.n x.c, .int .i64 x.e, .bool y.s, .slice y.A y.n y.c, .int .i64 y.e] : Array Value).toList = U := hU
   have HU := Lib.hid hU
   clear hU
   have fin := hb _ _ (j1.trans (j2.mono (by omega))) (by omega)
   go_wp2_with (first | (refine wpList_store_mid rfl 32 (.tmp 1) (.tmp 11) rfl w.heap.size 0 #[.bool x.s, .slice x.A x.n x.c, .int .i64 x.e, .bool y.s, .slice y.A y.n y.c, .int .i64 y.e] rfl rfl th (by kernel_rfl) (all_oneCell_toArray (cells6D_one x y)) ?_; rw [HU.out]))
   exact bodyPost_ret (results_row_slot Tryz.results77 _ _ w.heap.size 32 #[.bool x.s, .slice x.A x.n x.c, .int .i64 x.e, .bool y.s, .slice y.A y.n y.c, .int .i64 y.e] (0, 0) _ (.int .i64 0) rfl rfl bU Tryz.underlying32 rfl (by kernel_rfl)) rfl ⟨x, y, B, rfl, ix, iy, fin, by omega, by omega, (intsR rx (w' := U) (fun b h1 h2 => hf b (by omega))).more (by omega) (Nat.le_refl _), (intsR ry (w' := U) (fun b h1 h2 => hf b (by omega))).more (Nat.le_refl _) (by omega)⟩
set_option maxHeartbeats 25600000 in
set_option maxRecDepth 100000 in
/-- query.guess' own function. -/
theorem guess1_any (w : World) (g : Nat) (hg : g < w.heap.size) (A : Option Addr) (n c : Nat) (xs : List Int) (hE : w.heap[g]? = some (.cells #[.slice A n c] 22 (0, 0)))
  (hI : Ints w 0 w.heap.size .u32 A n xs) (hT : Tab w) (hc : Least.checkCode xs = 0) (lo hi : Dn) (code : Int) (hx : guessX xs = (lo, hi, code)) :
  Calls Tryz.prog 79 #[.pointer (some ⟨g, 0, none⟩)] w (ToldR w lo hi code) := by
 obtain ⟨w1, hw, bT, j1, S1⟩ := alloc_zt w
 have s1 := j1.size
 have k0 : w1.cell? ⟨g, 0, none⟩ = some (.slice A n c) := cell_of_row w1 g 0 _ _ _ (box_later hE j1 hg)
 have HX := Lib.hid hx
 have HC := Lib.hid hc
 have hlen := Lib.hid hI.len
 have hbig := hI.big
 obtain ⟨G, hG⟩ : ∃ G, Least.guessS xs = G := ⟨_, rfl⟩
 have hGb := Lib.hid (guessS_bound hc (fun x hx => by have := (hI.wf x hx).1; simpa [IntKind.min, IntKind.signed] using this))
 have hg2 := Lib.hid (show Least.guessR xs = G by unfold Least.guessR; rw [if_pos hc, hG])
 have HG := Lib.hid hG
 clear hx hc hG
 go_enter Tryz.func79, Tryz.ntmps79
 go_wp2_with fail
 refine (Least.Guess_any w1 0 w1.heap.size A n c xs (ints_on hI j1) 0 G HC.out hg2.out).mono ?_
 rintro e' u ⟨rfl, m, hm⟩
 try clear hw
 have j2 : Below w1.heap.size w1 u := by rw [hm]; exact below_drewN (Below.refl _ _) m
 have k1 : u.cell? ⟨g, 0, none⟩ = some (.slice A n c) := cell_of_row u g 0 _ _ _ (box_later hE (later j1 j2) hg)
 have s2 := j2.size
 have bT2 : TBox u w.heap.size ZDv ZDv := (j2.block _ S1).trans bT
 clear hm k0
 by_cases h0 : n = 0
 · skip
   have hx := HX.out
   unfold guessX at hx
   rw [if_pos (by rw [hlen.out]; exact h0)] at hx
   injection hx with h1 h2
   injection h2 with h2 h3
   subst h1 h2 h3
   subst h0
   clear HX HC hlen hGb hg2 HG
   have bz_ : TBox u w.heap.size ZDv ZDv := (box_later bT j2 S1)
   obtain ⟨U_, hU_, bU_, hb_, hf_, l5_, l5'_⟩ := told_into bz_ ZDv ZDv
   have th_ := TBox.there bz_
   replace hU_ : u.setCells (w.heap.size) 0 (#[.bool false, .slice none 0 0, .int .i64 0, .bool false, .slice none 0 0, .int .i64 0] : Array Value).toList = U_ := hU_
   have HU_ := Lib.hid hU_
   clear hU_
   have fin_ := hb_ _ _ (later j1 j2) (by omega)
   go_wp2_with (first | (refine wpList_store_mid rfl 32 (.tmp 1) (.tmp 18) rfl w.heap.size 0 #[.bool false, .slice none 0 0, .int .i64 0, .bool false, .slice none 0 0, .int .i64 0] rfl rfl th_ (by kernel_rfl) (all_oneCell_toArray (cells6D_one ZDv ZDv)) ?_; rw [HU_.out]))
   exact bodyPost_ret (results_row_slot Tryz.results79 _ _ w.heap.size 32 #[.bool false, .slice none 0 0, .int .i64 0, .bool false, .slice none 0 0, .int .i64 0] (0, 0) _ (.int .i64 6) rfl rfl bU_ Tryz.underlying32 rfl (by kernel_rfl)) rfl (told_zero _ _ _ fin_)
 · skip
   have hx := HX.out
   unfold guessX at hx
   rw [if_neg (by rw [hlen.out]; exact h0), HG.out] at hx
   injection hx with h1 h2
   injection h2 with h2 h3
   subst h1 h2 h3
   have n0 : ((n : Int) == 0) = false := by
    have : (n : Int) ≠ 0 := by omega
    simpa using this
   have hGb' := HG.out ▸ hGb.out
   clear HX HC hlen hGb hg2
   go_wp2_with fail
   refine (two_i64 u G G (by omega) (by omega)).mono ?_
   rintro e' v ⟨x0, y0, B0, rfl, ix, iy, j3, l1, l2, rx, ry⟩
   clear k1
   have s3 := j3.size
   have bT3 : TBox v w.heap.size ZDv ZDv := (j3.block _ (by omega)).trans bT2
   obtain ⟨v1, hv1, b4, j4, S4⟩ := alloc_t v x0 y0
   have hT4 : Tab v1 := tab_later (tab_later (tab_later (tab_later hT j1) j2) j3) j4
   have bT4 : TBox v1 w.heap.size ZDv ZDv := (j4.block _ (by omega)).trans bT3
   have rx4 : DRow v1 u.heap.size B0 x0 := rx.below j4 l2
   have ry4 : DRow v1 B0 v.heap.size y0 := ry.below j4 (Nat.le_refl _)
   have hb4 : Below w.heap.size w v1 := ((j1.trans (j2.mono (by omega))).trans (j3.mono (by omega))).trans (j4.mono (by omega))
   have hy4 := Lib.hid ix
   have hx4 := Lib.hid iy
   clear ix iy rx ry bT bT2 bT3
   go_wp2_with (first | (refine wpList_store_nw rfl 32 (.tmp 5) (.tmp 21) rfl _ #[.bool x0.s, .slice x0.A x0.n x0.c, .int .i64 x0.e, .bool y0.s, .slice y0.A y0.n y0.c, .int .i64 y0.e] rfl rfl (by kernel_rfl) rfl (all_oneCell_toArray (cells6D_one x0 y0)) ?_; rw [hv1]))
   try clear hv1
   obtain ⟨T, hTe⟩ : ∃ T, v.heap.size = T := ⟨_, rfl⟩
   rw [hTe] at b4
   try rw [hTe]
   go_loopw [22] (fun iv wr => ∃ (i : Nat) (x y : Dv) (lo B hi : Nat), iv = .int .i64 i ∧ i ≤ 2 ∧ Hid (Is (halves G i) x) ∧ Hid (Is (halves G i) y) ∧ TBox wr T x y ∧ TBox wr w.heap.size ZDv ZDv ∧ Below w.heap.size w wr ∧ T < wr.heap.size ∧ w.heap.size < T ∧ DRow wr lo B x ∧ DRow wr B hi y ∧ w.heap.size < lo ∧ lo ≤ B ∧ B ≤ hi ∧ hi ≤ wr.heap.size ∧ (hi ≤ T ∨ T < lo)) (fun iv _ => 2 - (intOf iv).toNat)
   case atStart => exact ⟨0, x0, y0, u.heap.size, B0, v.heap.size, rfl, by omega, hy4, hx4, b4, bT4, hb4, by omega, by omega, rx4, ry4, by omega, l1, l2, by omega, .inl (by omega)⟩
   case round =>
    clear hy4 hx4 b4 bT4 rx4 ry4 hT4 hb4
    obtain ⟨i, x, y, lo, B, hi, rfl, hi2, ix, iy, bX, bT, hb, t1, t2, rx, ry, q1, q2, q3, q4, q5⟩ := hrel
    by_cases hlt : i < 2
    · obtain ⟨r, hr⟩ : ∃ r, halves G (i + 1) = r := ⟨_, rfl⟩
      obtain ⟨q, hq⟩ : ∃ q, (halfD (halves G i)).2 = q := ⟨_, rfl⟩
      have hm := halves_may (z := G) (by omega) (by omega) i
      have HX := Lib.hid (show halfX x.s x.xs x.e = (r, q) by rw [is_half ix.out hm, ← hr, ← hq]; rfl)
      have HY := Lib.hid (show halfX y.s y.xs y.e = (r, q) by rw [is_half iy.out hm, ← hr, ← hq]; rfl)
      have HRn := Lib.hid hr
      have hwr : IntKind.i64.wrap ((i : Int) + 1) = ((i + 1 : Nat) : Int) := by rw [IntKind.wrap_i64]; omega
      have rlo := TBox.low bX
      clear hr hq hm
      go_wp2_with (first | (refine wpList_load_mid rfl 24 (.tmp 25) rfl T 0 rfl [.bool x.s, .slice x.A x.n x.c, .int .i64 x.e] _ rlo Tryz.underlying24 rfl (by kernel_rfl) ?_))
      refine (Half_all wr x.s x.A x.n x.c x.xs x.e (rx.more (Nat.zero_le _) (by omega)) (tab_later hT hb) r q HX.out).mono ?_
      rintro e' a1 ⟨A1, n1, c1, rfl, _, ja, I1⟩
      clear rlo
      have sa := ja.size
      have bXa : TBox a1 T x y := (ja.block _ t1).trans bX
      obtain ⟨U1, hU1, bX1, hb1, hf1, g1, g1'⟩ := low_into bXa ⟨r.neg, A1, n1, c1, r.e, canon 4294967296 r.m⟩
      have th1 := TBox.thereL bXa
      replace hU1 : a1.setCells T 0 (#[.bool r.neg, .slice A1 n1 c1, .int .i64 r.e] : Array Value).toList = U1 := hU1
      have HU1 := Lib.hid hU1
      have rhi := TBox.high bX1
      have hba : Below w.heap.size w a1 := hb.trans (ja.mono hb.size)
      have hbU : Below w.heap.size w U1 := hb1 _ _ hba (by omega)
      have ryU : DRow U1 B hi y := intsR (ry.below ja q4) (w' := U1) (fun b h1 h2 => hf1 b (by omega))
      have rxU : DRow U1 wr.heap.size U1.heap.size ⟨r.neg, A1, n1, c1, r.e, canon 4294967296 r.m⟩ := (intsR I1 (w' := U1) (fun b h1 h2 => hf1 b (by omega))).more (Nat.le_refl _) g1'
      have bTU : TBox U1 w.heap.size ZDv ZDv := (hf1 _ (by omega)).trans ((ja.block _ (by omega)).trans bT)
      clear hU1 bXa
      go_wp2_with (first
       | (refine wpList_store_mid rfl 24 (.tmp 30) (.tmp 28) rfl T 0 #[.bool r.neg, .slice A1 n1 c1, .int .i64 r.e] rfl rfl th1 (by kernel_rfl) (all_oneCell_toArray (cells3D_one ⟨r.neg, A1, n1, c1, r.e, []⟩)) ?_; rw [HU1.out])
       | (refine wpList_load_mid rfl 24 (.tmp 32) rfl T 3 rfl [.bool y.s, .slice y.A y.n y.c, .int .i64 y.e] _ rhi Tryz.underlying24 rfl (by kernel_rfl) ?_))
      refine (Half_all U1 y.s y.A y.n y.c y.xs y.e (ryU.more (Nat.zero_le _) (by omega)) (tab_later hT hbU) r q HY.out).mono ?_
      rintro e' a2 ⟨A2, n2, c2, rfl, _, jb, I2⟩
      clear rhi th1 HU1
      have sb := jb.size
      have bXb : TBox a2 T ⟨r.neg, A1, n1, c1, r.e, canon 4294967296 r.m⟩ y := (jb.block _ (by omega)).trans bX1
      obtain ⟨U2, hU2, bX2, hb2, hf2, g2, g2'⟩ := high_into bXb ⟨r.neg, A2, n2, c2, r.e, canon 4294967296 r.m⟩
      have th2 := TBox.thereH bXb
      replace hU2 : a2.setCells T 3 (#[.bool r.neg, .slice A2 n2 c2, .int .i64 r.e] : Array Value).toList = U2 := hU2
      have HU2 := Lib.hid hU2
      have hbV : Below w.heap.size w U2 := hb2 _ _ (hbU.trans (jb.mono hbU.size)) (by omega)
      have rxV : DRow U2 wr.heap.size U1.heap.size ⟨r.neg, A1, n1, c1, r.e, canon 4294967296 r.m⟩ := intsR (rxU.below jb (Nat.le_refl _)) (w' := U2) (fun b h1 h2 => hf2 b (by omega))
      have ryV : DRow U2 U1.heap.size U2.heap.size ⟨r.neg, A2, n2, c2, r.e, canon 4294967296 r.m⟩ := (intsR I2 (w' := U2) (fun b h1 h2 => hf2 b (by omega))).more (Nat.le_refl _) g2'
      have bTV : TBox U2 w.heap.size ZDv ZDv := (hf2 _ (by omega)).trans ((jb.block _ (by omega)).trans bTU)
      clear hU2 bXb
      go_wp2_with (first
       | (refine wpList_store_mid rfl 24 (.tmp 37) (.tmp 35) rfl T 3 #[.bool r.neg, .slice A2 n2 c2, .int .i64 r.e] rfl rfl th2 (by kernel_rfl) (all_oneCell_toArray (cells3D_one ⟨r.neg, A2, n2, c2, r.e, []⟩)) ?_; rw [HU2.out]))
      go_roundw
      case rel => exact ⟨i + 1, ⟨r.neg, A1, n1, c1, r.e, canon 4294967296 r.m⟩, ⟨r.neg, A2, n2, c2, r.e, canon 4294967296 r.m⟩, wr.heap.size, U1.heap.size, U2.heap.size, by first | rfl | (congr 1; omega) | go_num, hlt, Lib.hid (by rw [HRn.out]; exact ⟨rfl, rfl, rfl⟩), Lib.hid (by rw [HRn.out]; exact ⟨rfl, rfl, rfl⟩), bX2, bTV, hbV, by omega, t2, rxV, ryV, by omega, by omega, by omega, Nat.le_refl _, .inr (by omega)⟩
      case measure => first | (simp [intOf]; done) | (simp [intOf]; omega)
    · obtain rfl : i = 2 := by omega
      have rxy := TBox.range bX
      obtain ⟨U, hU, bF, hbF, hfF, g1, g1'⟩ := told_into bT x y
      have th := TBox.there bT
      replace hU : wr.setCells w.heap.size 0 (#[.bool x.s, .slice x.A x.n x.c, .int .i64 x.e, .bool y.s, .slice y.A y.n y.c, .int .i64 y.e] : Array Value).toList = U := hU
      have HU := Lib.hid hU
      clear hU
      go_wp2_with (first
       | (refine wpList_load_mid rfl 32 (.tmp 5) rfl T 0 rfl [.bool x.s, .slice x.A x.n x.c, .int .i64 x.e, .bool y.s, .slice y.A y.n y.c, .int .i64 y.e] _ rxy Tryz.underlying32 rfl (by kernel_rfl) ?_)
       | (refine wpList_store_mid rfl 32 (.tmp 1) (.tmp 39) rfl w.heap.size 0 #[.bool x.s, .slice x.A x.n x.c, .int .i64 x.e, .bool y.s, .slice y.A y.n y.c, .int .i64 y.e] rfl rfl th (by kernel_rfl) (all_oneCell_toArray (cells6D_one x y)) ?_; rw [HU.out]))
      have fin := hbF _ _ hb (Nat.le_refl _)
      exact bodyPost_ret (results_row_slot Tryz.results79 _ _ w.heap.size 32 #[.bool x.s, .slice x.A x.n x.c, .int .i64 x.e, .bool y.s, .slice y.A y.n y.c, .int .i64 y.e] (0, 0) _ (.int .i64 0) rfl rfl bF Tryz.underlying32 rfl (by kernel_rfl)) rfl ⟨x, y, B, rfl, ix.out, iy.out, fin, by omega, by omega, (intsR rx (w' := U) (fun b h1 h2 => hfF b (by omega))).more (by omega) (Nat.le_refl _), (intsR ry (w' := U) (fun b h1 h2 => hfF b (by omega))).more (Nat.le_refl _) (by omega)⟩
end Ma
end Go.Proofs.YtmbppgjhdcmckaaGreatDoor
namespace Go.Proofs.YtmbppgjhdcmckaaGreatDoor
open Go.RowKit
namespace Ma
open Dp Dy
/-- A maker's answer. -/
def Makes (F : FuncId) (w : World) (T : Dn × Dn × Int) (e : Ending) (w' : World) : Prop := ∃ v, e = .returned v ∧ Tells F w' T v ∧ Below w.heap.size w w'
/-- What even tells. -/
noncomputable def evenX (m : Mv) (k : Int) : Dn × Dn × Int := if aboveV m.W = false then (Dn.zero, Dn.zero, 6) else partsX m.A ⟨false, none, 1, 1, 0, canon 4294967296 1⟩ k
theorem partsX_eq {a b b' : Dv} {k : Int} (hs : b.s = b'.s) (hn : b.n = b'.n) (hx : b.xs = b'.xs) (he : b.e = b'.e) : partsX a b k = partsX a b' k := by
 unfold partsX aboveV
 rw [hs, hn, hx, he]
theorem alloc_i (w : World) (k : Int) : ∃ U, w.alloc (.cells #[.int .i64 k] 3) = U ∧ U.heap[w.heap.size]? = some (.cells #[.int .i64 k] 3 (0, 0)) ∧ Below w.heap.size w U ∧ w.heap.size < U.heap.size :=
 ⟨_, rfl, heap_alloc_last _ _, (Below.refl _ w).alloc (Nat.le_refl _) _, by simp⟩
theorem alloc_e (w : World) (h : Bool) (mn mx : Int) : ∃ U, w.alloc (.cells #[.bool h, .int .i64 mn, .int .i64 mx] 28) = U ∧ U.heap[w.heap.size]? = some (.cells #[.bool h, .int .i64 mn, .int .i64 mx] 28 (0, 0)) ∧ Below w.heap.size w U ∧ w.heap.size < U.heap.size :=
 ⟨_, rfl, heap_alloc_last _ _, (Below.refl _ w).alloc (Nat.le_refl _) _, by simp⟩
theorem alloc_s (w : World) (A : Option Addr) (n c : Nat) : ∃ U, w.alloc (.cells #[.slice A n c] 22) = U ∧ U.heap[w.heap.size]? = some (.cells #[.slice A n c] 22 (0, 0)) ∧ Below w.heap.size w U ∧ w.heap.size < U.heap.size :=
 ⟨_, rfl, heap_alloc_last _ _, (Below.refl _ w).alloc (Nat.le_refl _) _, by simp⟩
set_option maxHeartbeats 3200000 in
/-- query.count. -/
theorem qcount_any (w : World) (c : Dv) (hR : DRow w 0 w.heap.size c) : Calls Tryz.prog 36 #[.agg #[.bool c.s, .slice c.A c.n c.c, .int .i64 c.e]] w (Makes 70 w (countX c)) := by
 obtain ⟨w1, hw, bQ, j1, S1⟩ := alloc_q w c
 go_enter Tryz.func36, Tryz.ntmps36
 go_wp2
 go_ret
 exact ⟨_, rfl, ⟨_, rfl, fun w' hb => count1_any w' w.heap.size (Nat.lt_of_lt_of_le S1 hb.size) c ((hb.block _ S1).trans bQ) (drow_on (drow_on hR j1) hb) _ _ _ rfl⟩, j1⟩
set_option maxHeartbeats 3200000 in
/-- query.ends. -/
theorem qends_any (w : World) (h : Bool) (mn mx : Int) (hmn : -9223372036854775808 ≤ mn ∧ mn ≤ 9223372036854775807) (hmx : -9223372036854775808 ≤ mx ∧ mx ≤ 9223372036854775807) : Calls Tryz.prog 39 #[.agg #[.bool h, .int .i64 mn, .int .i64 mx]] w (Makes 77 w (endsX h mn mx)) := by
 obtain ⟨w1, hw, bQ, j1, S1⟩ := alloc_e w h mn mx
 go_enter Tryz.func39, Tryz.ntmps39
 go_wp2
 go_ret
 exact ⟨_, rfl, ⟨_, rfl, fun w' hb => ends1_any w' w.heap.size (Nat.lt_of_lt_of_le S1 hb.size) h mn mx ((hb.block _ S1).trans bQ) hmn hmx _ _ _ rfl⟩, j1⟩
set_option maxHeartbeats 3200000 in
/-- query.guess. -/
theorem qguess_any (w : World) (A : Option Addr) (n c : Nat) (xs : List Int) (hI : Ints w 0 w.heap.size .u32 A n xs) (hT : Tab w) (hc : Least.checkCode xs = 0) : Calls Tryz.prog 40 #[.slice A n c] w (Makes 79 w (guessX xs)) := by
 obtain ⟨w1, hw, bQ, j1, S1⟩ := alloc_s w A n c
 go_enter Tryz.func40, Tryz.ntmps40
 go_wp2
 go_ret
 exact ⟨_, rfl, ⟨_, rfl, fun w' hb => guess1_any w' w.heap.size (Nat.lt_of_lt_of_le S1 hb.size) A n c xs ((hb.block _ S1).trans bQ) (ints_on (ints_on hI j1) hb) (tab_later (tab_later hT j1) hb) hc _ _ _ rfl⟩, j1⟩
set_option maxHeartbeats 3200000 in
/-- query.parts. -/
theorem qparts_any (w : World) (a b : Dv) (k : Int) (hA : DRow w 0 w.heap.size a) (hB : DRow w 0 w.heap.size b) : Calls Tryz.prog 37 #[.agg #[.bool a.s, .slice a.A a.n a.c, .int .i64 a.e], .agg #[.bool b.s, .slice b.A b.n b.c, .int .i64 b.e], .int .i64 k] w (Makes 74 w (partsX a b k)) := by
 obtain ⟨w1, hw1, bA, j1, S1⟩ := alloc_q w a
 obtain ⟨w2, hw2, bB, j2, S2⟩ := alloc_q w1 b
 obtain ⟨w3, hw3, bK, j3, S3⟩ := alloc_i w2 k
 have s1 := j1.size
 have s2 := j2.size
 have s3 := j3.size
 have z1 : w1.heap.size = w.heap.size + 1 := by rw [← hw1]; simp
 have z2 : w2.heap.size = w.heap.size + 1 + 1 := by rw [← hw2]; simp [z1]
 subst hw1 hw2
 have j : Below w.heap.size w w3 := (j1.trans (j2.mono s1)).trans (j3.mono (by omega))
 rw [z1] at bB S2
 rw [z2] at bK S3
 go_enter Tryz.func37, Tryz.ntmps37
 go_wp2
 go_ret
 refine ⟨_, rfl, ⟨_, rfl, fun w' hb => ?_⟩, j⟩
 have hs := hb.size
 have c1 := later (later j2 j3) hb
 have c2 := later j3 hb
 exact parts1_any w' w.heap.size (w.heap.size + 1) (w.heap.size + 1 + 1) (by omega) (by omega) (by omega) a b k ((c1.block _ S1).trans bA) ((c2.block _ S2).trans bB) ((hb.block _ S3).trans bK) (drow_on hA (later j hb)) (drow_on hB (later j hb)) _ _ _ rfl
set_option maxHeartbeats 12800000 in
set_option maxRecDepth 100000 in
/-- query.even. -/
theorem qeven_any (w : World) (m : Mv) (hR : MRows w 0 w.heap.size m) (k : Int) : Calls Tryz.prog 38 #[.agg #[.bool m.S.s, .slice m.S.A m.S.n m.S.c, .int .i64 m.S.e, .bool m.W.s, .slice m.W.A m.W.n m.W.c, .int .i64 m.W.e, .bool m.C.s, .slice m.C.A m.C.n m.C.c, .int .i64 m.C.e, .bool m.A.s, .slice m.A.A m.A.n m.A.c, .int .i64 m.A.e], .int .i64 k] w (Makes 74 w (evenX m k)) := by
 obtain ⟨w1, hw, bM, j1, S1⟩ := alloc_m w m
 obtain ⟨a, ha⟩ : ∃ a, aboveV m.W = a := ⟨_, rfl⟩
 have HA := Lib.hid ha
 clear ha
 go_enter Tryz.func38, Tryz.ntmps38
 obtain ⟨⟨q1_0, q1_1, q1_2, q1_3, q1_4, q1_5, q1_6, q1_7, q1_8, q1_9, q1_10, q1_11⟩, q1f⟩ := MBox.cells bM
 go_wp2_with fail
 refine (above_any w1 m.W a HA.out).mono ?_
 rintro e' v2 ⟨rfl, j3⟩
 clear q1_0 q1_1 q1_2 q1_3 q1_4 q1_5 q1_6 q1_7 q1_8 q1_9 q1_10 q1_11 q1f
 try clear hw
 cases a
 · skip
   obtain ⟨⟨q4_0, q4_1, q4_2, q4_3, q4_4, q4_5, q4_6, q4_7, q4_8, q4_9, q4_10, q4_11⟩, q4f⟩ := MBox.cells (box_later bM j3 S1)
   go_wp2_with fail
   refine (qparts_any v2 m.A m.W k (MRows.on hR (later j1 j3)).A (MRows.on hR (later j1 j3)).W).mono ?_
   rintro e' v5 ⟨V, rfl, TV, j6⟩
   clear q4_0 q4_1 q4_2 q4_3 q4_4 q4_5 q4_6 q4_7 q4_8 q4_9 q4_10 q4_11 q4f
   try clear hw
   go_wp2
   go_ret
   have e1 : partsX m.A m.W k = evenX m k := by unfold evenX partsX; rw [if_pos HA.out, if_pos HA.out]
   rw [e1] at TV
   exact ⟨V, rfl, TV, (later j1 (later j3 j6))⟩
 · skip
   go_wp2_with fail
   try clear hw
   refine region_E (Keeps v2) [] (m := 6) (L := #[zF,zF,zF,zF,zF,zF]) (by kernel_rfl) (by rfl) (by rfl) ?_
   have j8 : Below v2.heap.size v2 v2.drew := (Below.refl _ _).drew
   generalize v2.drew = v7 at *
   refine zE 0 #[zT,zF,zF,zF,zF,zF] ?_ rfl ?hy10 ?rest10
   case hy10 => intro w; go_simp; (try with_reducible rfl)
   try simp only [Act.put, zp]
   refine zE 3 #[zT,zF,zF,zT,zF,zF] ?_ rfl ?hy11 ?rest11
   case hy11 => intro w; go_simp; (try with_reducible rfl)
   try simp only [Act.put, zp]
   have kpy9 : Keeps v2 v7 := fun p hp => Below.block j8 p hp
   refine readE (i := 1) (L := #[zT,zT,zF,zT,zF,zF]) (v := .agg #[.bool m.A.s, .slice m.A.A m.A.n m.A.c, .int .i64 m.A.e]) rfl (by rfl) (by kernel_rfl) (by kernel_rfl) (by kernel_rfl) (fun _ _ _ h => h) (by assumption) (by rfl) ?y9 ?z10
   case y9 =>
    intro w' h1
    obtain ⟨⟨k0, k1, k2, k3, k4, k5, k6, k7, k8, k9, k10, k11⟩, kf⟩ := MBox.cells ((h1 _ (Nat.lt_of_lt_of_le S1 (Below.size j3))).trans (box_later bM j3 S1))
    go_simp
   try simp only [Act.put, zp]
   refine stepK (i := 2) (L := #[zT,zT,zT,zT,zF,zF]) rfl (by rfl) (by kernel_rfl) (by rfl) (fun K hK => ?_)
   go_simp
   go_at_call 19
   refine (Of_any v7 1 (by decide) (by decide) false 1 rfl rfl).mono ?_
   rintro e' v11 ⟨A1, n1, rfl, j12, I1⟩
   refine hK _ _ ⟨fun _ _ => fun p hp => Below.block (later j8 j12) p hp, ?_⟩
   clear hK K
   try simp only [Act.put, zp]
   have I1' := I1.more (Nat.zero_le _) (Nat.le_refl _)
   refine stepK (i := 4) (L := #[zT,zT,zT,zT,zT,zF]) rfl (by rfl) (by kernel_rfl) (by rfl) (fun K hK => ?_)
   go_simp
   go_at_call 37
   refine (qparts_any v11 m.A ⟨false, A1, n1, n1, 0, canon 4294967296 1⟩ k (MRows.on hR (later j1 (later j3 (later j8 j12)))).A I1').mono ?_
   rintro e' v13 ⟨V, rfl, TV, j14⟩
   refine hK _ _ ⟨fun _ _ => fun p hp => Below.block (later j8 (later j12 j14)) p hp, ?_⟩
   clear hK K
   try simp only [Act.put, zp]
   refine zE 5 #[zT,zT,zT,zT,zT,zT] ?_ rfl ?hy15 ?rest15
   case hy15 => intro w; go_simp; (try with_reducible rfl)
   try simp only [Act.put, zp]
   refine doneE (by kernel_rfl) ?_ _
   have e0 : n1 = 1 := by
    have := I1.len
    rw [canon_one _ (by decide) (by decide)] at this
    simpa using this.symm
   have e1 : partsX m.A ⟨false, A1, n1, n1, 0, canon 4294967296 1⟩ k = evenX m k := by
    unfold evenX
    rw [if_neg (by rw [HA.out]; simp)]
    exact partsX_eq rfl e0 rfl rfl
   rw [e1] at TV
   go_wp2
   go_ret
   exact ⟨V, rfl, TV, (later j1 (later j3 (later j8 (later j12 j14))))⟩
end Ma
end Go.Proofs.YtmbppgjhdcmckaaGreatDoor