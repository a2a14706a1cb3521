/- query.Same: a walk (printed by a program of mine). -/
/- Twins of parts tell the same: plain laws. -/
/- query.Part, query.Node: walks (printed by a program of mine). -/
/- headcountref22.Great: a walk (printed by a program of mine). -/
/- headcountlaw25.QueryFrozen: the law's walk (printed by a program of mine). -/
/- Parts among the arguments. -/
import Derived.Test.YtmbppgjhdcmckaaGreatDoorBi12
import Derived.Test.YtmbppgjhdcmckaaGreatDoorBi19
import Derived.Test.YtmbppgjhdcmckaaGreatDoorBi20
import Derived.Test.YtmbppgjhdcmckaaGreatDoorBi02
import Derived.Test.YtmbppgjhdcmckaaGreatDoorBi17
import Derived.Test.YtmbppgjhdcmckaaGreatDoorBi18
import Derived.Test.YtmbppgjhdcmckaaGreatDoorBi01
import Derived.Test.YtmbppgjhdcmckaaGreatDoorBi14
import Derived.Lib.MinMax
import Derived.Test.YtmbppgjhdcmckaaGreatDoorBi11
import Derived.Test.YtmbppgjhdcmckaaGreatDoorBi06
import Derived.Test.YtmbppgjhdcmckaaGreatDoorBi08
import Derived.Test.YtmbppgjhdcmckaaGreatDoorBi07
import Derived.Test.YtmbppgjhdcmckaaGreatDoorBi09
import Derived.Test.YtmbppgjhdcmckaaGreatDoorBi05
import Derived.Test.YtmbppgjhdcmckaaGreatDoorBi10
import Derived.Test.YtmbppgjhdcmckaaGreatDoorBi03
namespace Go.Proofs.YtmbppgjhdcmckaaGreatDoor
open Go.RowKit
namespace Ma
open Dp Dy
def sameT (a b c d : Dv) : Bool := sameV a c && sameV b d
set_option maxHeartbeats 6400000 in
set_option maxRecDepth 100000 in
/-- query.Same. -/
theorem qSame_any (w : World) (a b c d : Dv) (hA : DRow w 0 w.heap.size a) (hB : DRow w 0 w.heap.size b) (hC : DRow w 0 w.heap.size c) (hD : DRow w 0 w.heap.size d) (r : Bool) (hr : sameT a b c d = r) :
  Calls Tryz.prog 13 #[.agg #[.bool a.s, .slice a.A a.n a.c, .int .i64 a.e, .bool b.s, .slice b.A b.n b.c, .int .i64 b.e], .agg #[.bool c.s, .slice c.A c.n c.c, .int .i64 c.e, .bool d.s, .slice d.A d.n d.c, .int .i64 d.e]] w fun e w' => e = .returned (.bool r) ∧ Below w.heap.size w w' := by
 obtain ⟨w1, hw1, bX, ja, S1⟩ := alloc_t w a b
 obtain ⟨w2, hw2, bY, jb, S2⟩ := alloc_t w1 c d
 have s1 := ja.size
 obtain ⟨t1, ht1⟩ : ∃ t, sameV a c = t := ⟨_, rfl⟩
 obtain ⟨t2, ht2⟩ : ∃ t, sameV b d = t := ⟨_, rfl⟩
 have H1 := Lib.hid ht1
 have H2 := Lib.hid ht2
 have HR : Hid (r = (t1 && t2)) := Lib.hid (by rw [← hr, ← ht1, ← ht2]; rfl)
 clear ht1 ht2 hr
 have z1 : w1.heap.size = w.heap.size + 1 := by rw [← hw1]; simp
 subst hw1
 rw [z1] at bY S2
 go_enter Tryz.func13, Tryz.ntmps13
 replace bX : TBox w2 w.heap.size a b := (jb.block _ S1).trans bX
 have r1 := TBox.low bX
 have r2 := TBox.low bY
 go_wp2_with (first
  | (refine wpList_load_mid rfl 24 (.tmp 5) rfl (w.heap.size) 0 rfl [.bool a.s, .slice a.A a.n a.c, .int .i64 a.e] _ r1 Tryz.underlying24 rfl (by kernel_rfl) ?_)
  | (refine wpList_load_mid rfl 24 (.tmp 7) rfl ((w.heap.size + 1)) 0 rfl [.bool c.s, .slice c.A c.n c.c, .int .i64 c.e] _ r2 Tryz.underlying24 rfl (by kernel_rfl) ?_))
 refine (Pa.dyadSame_any w2 _ _ _ _ _ _ _ _ _ _ _ _ (ints_on hA (later ja jb)) (ints_on hC (later ja jb)) t1 H1.out).mono ?_
 rintro e' v1 ⟨rfl, j2⟩
 try clear hw
 clear r1 r2
 try clear hw2
 cases t1
 case false =>
  obtain rfl : r = false := HR.out
  go_wp2
  go_ret
  exact ⟨rfl, (later (later ja jb) j2)⟩
 obtain rfl : r = t2 := HR.out.trans (Bool.true_and _)
 have r1 := TBox.high (box_later bX j2 (show w.heap.size < w2.heap.size by omega))
 have r2 := TBox.high (box_later bY j2 S2)
 go_wp2_with (first
  | (refine wpList_load_midG (by rfl) 24 (.tmp 11) rfl (w.heap.size) 3 rfl [.bool b.s, .slice b.A b.n b.c, .int .i64 b.e] _ r1 Tryz.underlying24 rfl (by kernel_rfl) ?_)
  | (refine wpList_load_midG (by rfl) 24 (.tmp 13) rfl ((w.heap.size + 1)) 3 rfl [.bool d.s, .slice d.A d.n d.c, .int .i64 d.e] _ r2 Tryz.underlying24 rfl (by kernel_rfl) ?_))
 refine (Pa.dyadSame_any v1 _ _ _ _ _ _ _ _ _ _ _ _ (ints_on hB (later (later ja jb) j2)) (ints_on hD (later (later ja jb) j2)) r H2.out).mono ?_
 rintro e' v3 ⟨rfl, j4⟩
 try clear hw
 clear r1 r2
 go_wp2
 go_ret
 exact ⟨rfl, (later (later ja jb) (later j2 j4))⟩
end Ma
end Go.Proofs.YtmbppgjhdcmckaaGreatDoor
namespace Go.Proofs.YtmbppgjhdcmckaaGreatDoor
open Go.RowKit
namespace Ma
open Dp Dy
theorem may_twin {p q : Pv} (h : TwinP p q) : mayP q = mayP p := by
 have hs : ∀ {a b : Pv}, TwinP a b → a.M.share → b.M.share := fun {a b} h hs => by
  obtain ⟨s0, s1, s2⟩ := hs
  have w1 := h.1 1 (by decide)
  have w0 := h.1 0 (by decide)
  refine ⟨fun x hx => ?_, ?_, ?_⟩
  · have hm := s0 x hx
    obtain ⟨a1, a2, a3, a4, _⟩ := h.1 x hx
    unfold Dv.may at hm ⊢
    rw [a1, a3, a4]
    exact hm
  · exact w1.1.trans s1
  · intro h0
    exact w0.2.1.trans (s2 (w1.2.1.symm.trans h0))
 have hb : badS [q.M] = badS [p.M] := by
  by_cases hp : p.M.share
  · rw [badS_one.2 hp, badS_one.2 (hs h hp)]
  · have hq : ¬ q.M.share := fun hq => by
      obtain ⟨s0, s1, s2⟩ := hq
      have w1 := h.1 1 (by decide)
      have w0 := h.1 0 (by decide)
      refine hp ⟨fun x hx => ?_, ?_, ?_⟩
      · have hm := s0 x hx
        obtain ⟨a1, a2, a3, a4, _⟩ := h.1 x hx
        unfold Dv.may at hm ⊢
        rw [a1, a3, a4] at hm
        exact hm
      · exact w1.1.symm.trans s1
      · intro h0
        exact w0.2.1.symm.trans (s2 (w1.2.1.trans h0))
    have e1 : badS [p.M] = true := by
     cases e : badS [p.M]
     · exact absurd (badS_one.1 e) hp
     · rfl
    have e2 : badS [q.M] = true := by
     cases e : badS [q.M]
     · exact absurd (badS_one.1 e) hq
     · rfl
    rw [e1, e2]
 unfold mayP
 rw [hb, h.2.1, h.2.2.1, h.2.2.2.1, h.2.2.2.2.2]
theorem above_twin {d d' : Dv} (h : TwinV d d') : aboveV d' = aboveV d := by
 unfold aboveV
 rw [h.1, h.2.1]
theorem parts_twin {a a' b b' : Dv} (h : TwinV a a') (k : TwinV b b') (n : Int) : partsX a' b' n = partsX a b n := by
 unfold partsX
 rw [above_twin k, h.1, h.2.2.1, h.2.2.2.1, k.1, k.2.2.1, k.2.2.2.1]
theorem count_twin {a a' : Dv} (h : TwinV a a') : countX a' = countX a := by
 unfold countX
 rw [above_twin h, h.1, h.2.2.1, h.2.2.2.1]
theorem twinV_refl (d : Dv) (h : d.n ≤ d.c) : TwinV d d := ⟨rfl, rfl, rfl, rfl, h⟩
theorem askQ_twin {p q : Pv} (h : TwinP p q) (kind k : Int) : askQ q kind k = askQ p kind k := by
 have h0 := h.1 0 (by decide)
 have h1 := h.1 1 (by decide)
 have h2 := h.1 2 (by decide)
 have h3 := h.1 3 (by decide)
 simp only [Mv.get] at h0 h1 h2 h3
 unfold askQ
 rw [may_twin h]
 congr 2
 unfold kindX
 rw [count_twin h2, parts_twin h3 h2, parts_twin h0 h1, h.2.1, h.2.2.1, h.2.2.2.1, h.2.2.2.2.2]
 have he : evenX q.M k = evenX p.M k := by
  unfold evenX
  rw [above_twin h1, parts_twin h3 (twinV_refl _ (Nat.le_refl _))]
 rw [he]
end Ma
end Go.Proofs.YtmbppgjhdcmckaaGreatDoor
namespace Go.Proofs.YtmbppgjhdcmckaaGreatDoor
open Go.RowKit
namespace No
open Ma
open Dp Dy
/-- How a node answers when asked for an epoch's part. -/
noncomputable def partC (v : Nv) (e : Int) : Int := if mayN v = false then 8 else if v.up = false then 14 else if ((e == v.ke) && decide (v.kf ≤ e)) = true then 0 else getF v.fn v.fs e
/-- The part it answers. -/
noncomputable def partV (v : Nv) (e : Int) : Pv := if partC v e = 0 then (if ((e == v.ke) && decide (v.kf ≤ e)) = true then v.P else gotF 0 v.fs e) else ZPv
theorem partV_zero {v : Nv} {e k : Int} (h : partC v e = k) (hk : k ≠ 0) : partV v e = ZPv := by unfold partV; rw [if_neg (by rw [h]; exact hk)]
theorem gotF_eq (k : Int) (fs : List Fv) (z : Int) : gotF k fs z = if k = 0 then gotF 0 fs z else ZPv := by
 by_cases h : k = 0
 · rw [if_pos h, h]
 · rw [if_neg h]; unfold gotF; rw [if_neg h]
set_option maxHeartbeats 51200000 in
set_option maxRecDepth 100000 in
/-- query.Part. -/
theorem qPart_any (w : World) (v : Nv) (hR : NRows w 0 w.heap.size v) (hg : greatP v.P = false) (hf : greatF v.fn v.fs = false) (e k : Int) (hk : partC v e = k) :
  Calls Tryz.prog 20 #[.agg #[.int .i64 v.id, .int .i64 v.val, .bool v.up, .int .i64 v.kl, .int .i64 v.kt, .int .i64 v.ks, .int .i64 v.ke, .int .i64 v.kf, .bool v.P.M.S.s, .slice v.P.M.S.A v.P.M.S.n v.P.M.S.c, .int .i64 v.P.M.S.e, .bool v.P.M.W.s, .slice v.P.M.W.A v.P.M.W.n v.P.M.W.c, .int .i64 v.P.M.W.e, .bool v.P.M.C.s, .slice v.P.M.C.A v.P.M.C.n v.P.M.C.c, .int .i64 v.P.M.C.e, .bool v.P.M.A.s, .slice v.P.M.A.A v.P.M.A.n v.P.M.A.c, .int .i64 v.P.M.A.e, .bool v.P.h, .int .i64 v.P.mn, .int .i64 v.P.mx, .slice v.P.A v.P.n v.P.c, .bool v.wo, .int .i64 v.wn, .int .i64 v.wt, .slice v.hA v.hn v.hc, .int .i64 v.own, .int .i64 v.cap, .slice v.dA v.dn v.dc, .slice v.fA v.fn v.fc, .slice v.tA v.tn v.tc], .int .i64 e] w fun e_ w' => ∃ q : Pv, e_ = .returned (.tuple #[.agg #[.bool q.M.S.s, .slice q.M.S.A q.M.S.n q.M.S.c, .int .i64 q.M.S.e, .bool q.M.W.s, .slice q.M.W.A q.M.W.n q.M.W.c, .int .i64 q.M.W.e, .bool q.M.C.s, .slice q.M.C.A q.M.C.n q.M.C.c, .int .i64 q.M.C.e, .bool q.M.A.s, .slice q.M.A.A q.M.A.n q.M.A.c, .int .i64 q.M.A.e, .bool q.h, .int .i64 q.mn, .int .i64 q.mx, .slice q.A q.n q.c], .int .i64 k]) ∧ TwinP (partV v e) q ∧ Below w.heap.size w w' ∧ PRows w' w.heap.size w'.heap.size q := by
 obtain ⟨w1, hw1, bN, ja, S1⟩ := alloc_n 63 w v
 obtain ⟨w2, hw2, bZ, jb, S2⟩ := alloc_zp w1
 have hs := Lib.hid (small_list hR.F hf)
 have hs2 := Lib.hid (small_part hR.P hg)
 have lw1 := ja.size
 have lw2 := jb.size
 have HK := Lib.hid hk
 clear hk hg hf
 obtain ⟨m, hm⟩ : ∃ m, mayN v = m := ⟨_, rfl⟩
 have HM := Lib.hid hm
 clear hm
 go_enter Tryz.func20, Tryz.ntmps20
 go_upto_region 1 with fail
 try rw [hw1]
 try rw [hw2]
 try clear hw1
 try clear hw2
 have rN := NBox.range (box_later bN jb S1)
 go_wp2_with (first | (refine wpList_load_mid rfl 63 (.tmp 2) rfl w.heap.size 0 rfl (cells33 v) _ rN Tryz.underlying63 rfl (by kernel_rfl) ?_; simp only [cells33]))
 refine (nCheck_any w2 v (NRows.on hR (later ja jb)) m HM.out).mono ?_
 rintro e' v1 ⟨rfl, j2⟩
 try clear hw
 clear rN
 cases m
 case false =>
  obtain rfl : k = 8 := by rw [← HK.out]; unfold partC; rw [if_pos HM.out]
  have bz_ : PBox v1 (w1.heap.size) ZPv := (box_later bZ j2 S2)
  obtain ⟨U_, hU_, bU_, hb_, hf_, l5_, l5'_⟩ := part_into bz_ ZPv
  have th_ := bz_.there
  replace hU_ : v1.setCells (w1.heap.size) 0 (#[.bool false, .slice none 0 0, .int .i64 0, .bool false, .slice none 0 0, .int .i64 0, .bool false, .slice none 0 0, .int .i64 0, .bool false, .slice none 0 0, .int .i64 0, .bool false, .int .i64 0, .int .i64 0, .slice none 0 0] : Array Value).toList = U_ := hU_
  have HU_ := Lib.hid hU_
  clear hU_
  have fin_ := hb_ _ _ (later ja (later jb j2)) (by omega)
  go_wp2_with (first | (refine wpList_store_mid rfl 30 (.tmp 4) (.tmp 11) rfl (w1.heap.size) 0 #[.bool false, .slice none 0 0, .int .i64 0, .bool false, .slice none 0 0, .int .i64 0, .bool false, .slice none 0 0, .int .i64 0, .bool false, .slice none 0 0, .int .i64 0, .bool false, .int .i64 0, .int .i64 0, .slice none 0 0] rfl rfl th_ (by kernel_rfl) (all_oneCell_toArray (cells16_one ZPv)) ?_; rw [HU_.out]))
  obtain ⟨Z_, hZ_⟩ : ∃ q : Pv, q = ZPv := ⟨_, rfl⟩
  rw [← hZ_] at bU_
  exact bodyPost_ret (results_row_slot Tryz.results20 _ _ (w1.heap.size) 30 #[.bool Z_.M.S.s, .slice Z_.M.S.A Z_.M.S.n Z_.M.S.c, .int .i64 Z_.M.S.e, .bool Z_.M.W.s, .slice Z_.M.W.A Z_.M.W.n Z_.M.W.c, .int .i64 Z_.M.W.e, .bool Z_.M.C.s, .slice Z_.M.C.A Z_.M.C.n Z_.M.C.c, .int .i64 Z_.M.C.e, .bool Z_.M.A.s, .slice Z_.M.A.A Z_.M.A.n Z_.M.A.c, .int .i64 Z_.M.A.e, .bool Z_.h, .int .i64 Z_.mn, .int .i64 Z_.mx, .slice Z_.A Z_.n Z_.c] (0, 0) _ (.int .i64 8) rfl rfl bU_ Tryz.underlying30 rfl (by kernel_rfl)) rfl ⟨Z_, rfl, by rw [hZ_, partV_zero HK.out (by decide)]; exact twinZ, fin_, by rw [hZ_]; exact rowsZ _ _ _⟩
 have ho := Lib.hid (show v.up = v.up from rfl)
 obtain ⟨c, hc⟩ : ∃ c, v.up = c := ⟨_, rfl⟩
 have c2 : v1.cell? ⟨w.heap.size, 2, none⟩ = some (.bool c) := (NBox.at_ (box_later bN (later jb j2) S1) 2 _ rfl).trans (by rw [hc])
 have HC := Lib.hid hc
 clear hc ho
 cases c
 case false =>
  obtain rfl : k = 14 := by rw [← HK.out]; unfold partC; rw [if_neg (by rw [HM.out]; decide), if_pos HC.out]
  have bz_ : PBox v1 (w1.heap.size) ZPv := (box_later bZ j2 S2)
  obtain ⟨U_, hU_, bU_, hb_, hf_, l5_, l5'_⟩ := part_into bz_ ZPv
  have th_ := bz_.there
  replace hU_ : v1.setCells (w1.heap.size) 0 (#[.bool false, .slice none 0 0, .int .i64 0, .bool false, .slice none 0 0, .int .i64 0, .bool false, .slice none 0 0, .int .i64 0, .bool false, .slice none 0 0, .int .i64 0, .bool false, .int .i64 0, .int .i64 0, .slice none 0 0] : Array Value).toList = U_ := hU_
  have HU_ := Lib.hid hU_
  clear hU_
  have fin_ := hb_ _ _ (later ja (later jb j2)) (by omega)
  go_wp2_with (first | (refine wpList_store_mid rfl 30 (.tmp 4) (.tmp 16) rfl (w1.heap.size) 0 #[.bool false, .slice none 0 0, .int .i64 0, .bool false, .slice none 0 0, .int .i64 0, .bool false, .slice none 0 0, .int .i64 0, .bool false, .slice none 0 0, .int .i64 0, .bool false, .int .i64 0, .int .i64 0, .slice none 0 0] rfl rfl th_ (by kernel_rfl) (all_oneCell_toArray (cells16_one ZPv)) ?_; rw [HU_.out]))
  obtain ⟨Z_, hZ_⟩ : ∃ q : Pv, q = ZPv := ⟨_, rfl⟩
  rw [← hZ_] at bU_
  exact bodyPost_ret (results_row_slot Tryz.results20 _ _ (w1.heap.size) 30 #[.bool Z_.M.S.s, .slice Z_.M.S.A Z_.M.S.n Z_.M.S.c, .int .i64 Z_.M.S.e, .bool Z_.M.W.s, .slice Z_.M.W.A Z_.M.W.n Z_.M.W.c, .int .i64 Z_.M.W.e, .bool Z_.M.C.s, .slice Z_.M.C.A Z_.M.C.n Z_.M.C.c, .int .i64 Z_.M.C.e, .bool Z_.M.A.s, .slice Z_.M.A.A Z_.M.A.n Z_.M.A.c, .int .i64 Z_.M.A.e, .bool Z_.h, .int .i64 Z_.mn, .int .i64 Z_.mx, .slice Z_.A Z_.n Z_.c] (0, 0) _ (.int .i64 14) rfl rfl bU_ Tryz.underlying30 rfl (by kernel_rfl)) rfl ⟨Z_, rfl, by rw [hZ_, partV_zero HK.out (by decide)]; exact twinZ, fin_, by rw [hZ_]; exact rowsZ _ _ _⟩
 obtain ⟨b1, hb1⟩ : ∃ b, (e == v.ke) = b := ⟨_, rfl⟩
 obtain ⟨b2, hb2⟩ : ∃ b, decide (v.kf ≤ e) = b := ⟨_, rfl⟩
 have HB1 := Lib.hid hb1
 have HB2 := Lib.hid hb2
 have c6 : v1.cell? ⟨w.heap.size, 6, none⟩ = some (.int .i64 v.ke) := NBox.at_ (box_later bN (later jb j2) S1) 6 _ rfl
 have c7 : v1.cell? ⟨w.heap.size, 7, none⟩ = some (.int .i64 v.kf) := NBox.at_ (box_later bN (later jb j2) S1) 7 _ rfl
 cases b1
 case false =>
  have hcn : Hid (¬((e == v.ke) && decide (v.kf ≤ e)) = true) := Lib.hid (by rw [HB1.out]; simp)
  have HG : Hid (getF v.fn v.fs e = k) := Lib.hid (by rw [← HK.out]; unfold partC; rw [if_neg (by rw [HM.out]; decide), if_neg (by rw [HC.out]; decide), if_neg hcn.out])
  have HV : Hid (partV v e = gotF k v.fs e) := Lib.hid (by unfold partV; rw [gotF_eq k, HK.out, if_neg hcn.out])
  have c31 : v1.cell? ⟨w.heap.size, 31, none⟩ = some (.slice v.fA v.fn v.fc) := NBox.at_ (box_later bN (later jb j2) S1) 31 _ rfl
  go_wp2_with fail
  refine (Get_any v1 v.fA v.fn v.fc v.fs (NRows.on hR (later ja (later jb j2))).F e hs.out k HG.out).mono ?_
  rintro e' v3 ⟨q, rfl, tq, j4, Rq⟩
  try clear hw
  replace tq := Lib.hid tq
  clear hb1 hb2 c6 c7 c31 c2
  have bz_ : PBox v3 (w1.heap.size) ZPv := (box_later bZ (later j2 j4) S2)
  obtain ⟨U_, hU_, bU_, hb_, hf_, l5_, l5'_⟩ := part_into bz_ q
  have th_ := bz_.there
  replace hU_ : v3.setCells (w1.heap.size) 0 (#[.bool q.M.S.s, .slice q.M.S.A q.M.S.n q.M.S.c, .int .i64 q.M.S.e, .bool q.M.W.s, .slice q.M.W.A q.M.W.n q.M.W.c, .int .i64 q.M.W.e, .bool q.M.C.s, .slice q.M.C.A q.M.C.n q.M.C.c, .int .i64 q.M.C.e, .bool q.M.A.s, .slice q.M.A.A q.M.A.n q.M.A.c, .int .i64 q.M.A.e, .bool q.h, .int .i64 q.mn, .int .i64 q.mx, .slice q.A q.n q.c] : Array Value).toList = U_ := hU_
  have HU_ := Lib.hid hU_
  clear hU_
  have fin_ := hb_ _ _ (later ja (later jb (later j2 j4))) (by omega)
  have sz_ := Below.size (later ja (later jb j2))
  have szB_ := Below.size j2
  have Rq2 := (prows_far Rq (offP_of Rq (.inl (by omega))) hf_).more (lo' := w.heap.size) (hi' := U_.heap.size) (by omega) (by omega)
  have tg : TwinP (partV v e) q := by rw [HV.out]; exact tq.out
  go_wp2_with (first | (refine wpList_store_mid rfl 30 (.tmp 4) (.tmp 36) rfl (w1.heap.size) 0 #[.bool q.M.S.s, .slice q.M.S.A q.M.S.n q.M.S.c, .int .i64 q.M.S.e, .bool q.M.W.s, .slice q.M.W.A q.M.W.n q.M.W.c, .int .i64 q.M.W.e, .bool q.M.C.s, .slice q.M.C.A q.M.C.n q.M.C.c, .int .i64 q.M.C.e, .bool q.M.A.s, .slice q.M.A.A q.M.A.n q.M.A.c, .int .i64 q.M.A.e, .bool q.h, .int .i64 q.mn, .int .i64 q.mx, .slice q.A q.n q.c] rfl rfl th_ (by kernel_rfl) (all_oneCell_toArray (cells16_one q)) ?_; rw [HU_.out]))
  exact bodyPost_ret (results_row_slot Tryz.results20 _ _ (w1.heap.size) 30 #[.bool q.M.S.s, .slice q.M.S.A q.M.S.n q.M.S.c, .int .i64 q.M.S.e, .bool q.M.W.s, .slice q.M.W.A q.M.W.n q.M.W.c, .int .i64 q.M.W.e, .bool q.M.C.s, .slice q.M.C.A q.M.C.n q.M.C.c, .int .i64 q.M.C.e, .bool q.M.A.s, .slice q.M.A.A q.M.A.n q.M.A.c, .int .i64 q.M.A.e, .bool q.h, .int .i64 q.mn, .int .i64 q.mx, .slice q.A q.n q.c] (0, 0) _ (.int .i64 k) rfl rfl bU_ Tryz.underlying30 rfl (by kernel_rfl)) rfl ⟨q, rfl, tg, fin_, Rq2⟩
 cases b2
 case false =>
  have hcn : Hid (¬((e == v.ke) && decide (v.kf ≤ e)) = true) := Lib.hid (by rw [HB1.out, HB2.out]; simp)
  have HG : Hid (getF v.fn v.fs e = k) := Lib.hid (by rw [← HK.out]; unfold partC; rw [if_neg (by rw [HM.out]; decide), if_neg (by rw [HC.out]; decide), if_neg hcn.out])
  have HV : Hid (partV v e = gotF k v.fs e) := Lib.hid (by unfold partV; rw [gotF_eq k, HK.out, if_neg hcn.out])
  have c31 : v1.cell? ⟨w.heap.size, 31, none⟩ = some (.slice v.fA v.fn v.fc) := NBox.at_ (box_later bN (later jb j2) S1) 31 _ rfl
  go_wp2_with fail
  refine (Get_any v1 v.fA v.fn v.fc v.fs (NRows.on hR (later ja (later jb j2))).F e hs.out k HG.out).mono ?_
  rintro e' v5 ⟨q, rfl, tq, j6, Rq⟩
  try clear hw
  replace tq := Lib.hid tq
  clear hb1 hb2 c6 c7 c31 c2
  have bz_ : PBox v5 (w1.heap.size) ZPv := (box_later bZ (later j2 j6) S2)
  obtain ⟨U_, hU_, bU_, hb_, hf_, l5_, l5'_⟩ := part_into bz_ q
  have th_ := bz_.there
  replace hU_ : v5.setCells (w1.heap.size) 0 (#[.bool q.M.S.s, .slice q.M.S.A q.M.S.n q.M.S.c, .int .i64 q.M.S.e, .bool q.M.W.s, .slice q.M.W.A q.M.W.n q.M.W.c, .int .i64 q.M.W.e, .bool q.M.C.s, .slice q.M.C.A q.M.C.n q.M.C.c, .int .i64 q.M.C.e, .bool q.M.A.s, .slice q.M.A.A q.M.A.n q.M.A.c, .int .i64 q.M.A.e, .bool q.h, .int .i64 q.mn, .int .i64 q.mx, .slice q.A q.n q.c] : Array Value).toList = U_ := hU_
  have HU_ := Lib.hid hU_
  clear hU_
  have fin_ := hb_ _ _ (later ja (later jb (later j2 j6))) (by omega)
  have sz_ := Below.size (later ja (later jb j2))
  have szB_ := Below.size j2
  have Rq2 := (prows_far Rq (offP_of Rq (.inl (by omega))) hf_).more (lo' := w.heap.size) (hi' := U_.heap.size) (by omega) (by omega)
  have tg : TwinP (partV v e) q := by rw [HV.out]; exact tq.out
  go_wp2_with (first | (refine wpList_store_mid rfl 30 (.tmp 4) (.tmp 36) rfl (w1.heap.size) 0 #[.bool q.M.S.s, .slice q.M.S.A q.M.S.n q.M.S.c, .int .i64 q.M.S.e, .bool q.M.W.s, .slice q.M.W.A q.M.W.n q.M.W.c, .int .i64 q.M.W.e, .bool q.M.C.s, .slice q.M.C.A q.M.C.n q.M.C.c, .int .i64 q.M.C.e, .bool q.M.A.s, .slice q.M.A.A q.M.A.n q.M.A.c, .int .i64 q.M.A.e, .bool q.h, .int .i64 q.mn, .int .i64 q.mx, .slice q.A q.n q.c] rfl rfl th_ (by kernel_rfl) (all_oneCell_toArray (cells16_one q)) ?_; rw [HU_.out]))
  exact bodyPost_ret (results_row_slot Tryz.results20 _ _ (w1.heap.size) 30 #[.bool q.M.S.s, .slice q.M.S.A q.M.S.n q.M.S.c, .int .i64 q.M.S.e, .bool q.M.W.s, .slice q.M.W.A q.M.W.n q.M.W.c, .int .i64 q.M.W.e, .bool q.M.C.s, .slice q.M.C.A q.M.C.n q.M.C.c, .int .i64 q.M.C.e, .bool q.M.A.s, .slice q.M.A.A q.M.A.n q.M.A.c, .int .i64 q.M.A.e, .bool q.h, .int .i64 q.mn, .int .i64 q.mx, .slice q.A q.n q.c] (0, 0) _ (.int .i64 k) rfl rfl bU_ Tryz.underlying30 rfl (by kernel_rfl)) rfl ⟨q, rfl, tg, fin_, Rq2⟩
 obtain rfl : k = 0 := by rw [← HK.out]; unfold partC; rw [if_neg (by rw [HM.out]; decide), if_neg (by rw [HC.out]; decide), if_pos (by rw [HB1.out, HB2.out]; rfl)]
 have HV : Hid (partV v e = v.P) := Lib.hid (by unfold partV; rw [if_pos HK.out, if_pos (by rw [HB1.out, HB2.out]; rfl)])
 have ra := NBox.part (box_later bN (later jb j2) S1)
 go_wp2_with (first
  | (refine wpList_load_mid rfl 30 (.tmp 29) rfl (w.heap.size) 8 rfl [.bool v.P.M.S.s, .slice v.P.M.S.A v.P.M.S.n v.P.M.S.c, .int .i64 v.P.M.S.e, .bool v.P.M.W.s, .slice v.P.M.W.A v.P.M.W.n v.P.M.W.c, .int .i64 v.P.M.W.e, .bool v.P.M.C.s, .slice v.P.M.C.A v.P.M.C.n v.P.M.C.c, .int .i64 v.P.M.C.e, .bool v.P.M.A.s, .slice v.P.M.A.A v.P.M.A.n v.P.M.A.c, .int .i64 v.P.M.A.e, .bool v.P.h, .int .i64 v.P.mn, .int .i64 v.P.mx, .slice v.P.A v.P.n v.P.c] _ ra Tryz.underlying30 rfl (by kernel_rfl) ?_))
 refine (TwinPart_any v1 v.P (NRows.on hR (later ja (later jb j2))).P hs2.out.1 hs2.out.2).mono ?_
 rintro e' v7 ⟨q, rfl, tq, j8, Rq⟩
 try clear hw
 replace tq := Lib.hid tq
 clear hb1 hb2 ra c6 c7 c2
 have bz_ : PBox v7 (w1.heap.size) ZPv := (box_later bZ (later j2 j8) S2)
 obtain ⟨U_, hU_, bU_, hb_, hf_, l5_, l5'_⟩ := part_into bz_ q
 have th_ := bz_.there
 replace hU_ : v7.setCells (w1.heap.size) 0 (#[.bool q.M.S.s, .slice q.M.S.A q.M.S.n q.M.S.c, .int .i64 q.M.S.e, .bool q.M.W.s, .slice q.M.W.A q.M.W.n q.M.W.c, .int .i64 q.M.W.e, .bool q.M.C.s, .slice q.M.C.A q.M.C.n q.M.C.c, .int .i64 q.M.C.e, .bool q.M.A.s, .slice q.M.A.A q.M.A.n q.M.A.c, .int .i64 q.M.A.e, .bool q.h, .int .i64 q.mn, .int .i64 q.mx, .slice q.A q.n q.c] : Array Value).toList = U_ := hU_
 have HU_ := Lib.hid hU_
 clear hU_
 have fin_ := hb_ _ _ (later ja (later jb (later j2 j8))) (by omega)
 have sz_ := Below.size (later ja (later jb j2))
 have szB_ := Below.size j2
 have Rq2 := (prows_far Rq (offP_of Rq (.inl (by omega))) hf_).more (lo' := w.heap.size) (hi' := U_.heap.size) (by omega) (by omega)
 have tg : TwinP (partV v e) q := by rw [HV.out]; exact tq.out
 go_wp2_with (first | (refine wpList_store_mid rfl 30 (.tmp 4) (.tmp 31) rfl (w1.heap.size) 0 #[.bool q.M.S.s, .slice q.M.S.A q.M.S.n q.M.S.c, .int .i64 q.M.S.e, .bool q.M.W.s, .slice q.M.W.A q.M.W.n q.M.W.c, .int .i64 q.M.W.e, .bool q.M.C.s, .slice q.M.C.A q.M.C.n q.M.C.c, .int .i64 q.M.C.e, .bool q.M.A.s, .slice q.M.A.A q.M.A.n q.M.A.c, .int .i64 q.M.A.e, .bool q.h, .int .i64 q.mn, .int .i64 q.mx, .slice q.A q.n q.c] rfl rfl th_ (by kernel_rfl) (all_oneCell_toArray (cells16_one q)) ?_; rw [HU_.out]))
 exact bodyPost_ret (results_row_slot Tryz.results20 _ _ (w1.heap.size) 30 #[.bool q.M.S.s, .slice q.M.S.A q.M.S.n q.M.S.c, .int .i64 q.M.S.e, .bool q.M.W.s, .slice q.M.W.A q.M.W.n q.M.W.c, .int .i64 q.M.W.e, .bool q.M.C.s, .slice q.M.C.A q.M.C.n q.M.C.c, .int .i64 q.M.C.e, .bool q.M.A.s, .slice q.M.A.A q.M.A.n q.M.A.c, .int .i64 q.M.A.e, .bool q.h, .int .i64 q.mn, .int .i64 q.mx, .slice q.A q.n q.c] (0, 0) _ (.int .i64 0) rfl rfl bU_ Tryz.underlying30 rfl (by kernel_rfl)) rfl ⟨q, rfl, tg, fin_, Rq2⟩
/-- What a node tells of an epoch. -/
noncomputable def nodeQ (v : Nv) (kind e k : Int) : Dn × Dn × Int := if partC v e = 0 then askQ (partV v e) kind k else (Dn.zero, Dn.zero, partC v e)
set_option maxHeartbeats 51200000 in
set_option maxRecDepth 100000 in
/-- query.Node. -/
theorem qNode_any (w : World) (v : Nv) (hR : NRows w 0 w.heap.size v) (hT : Tab w) (hg : greatP v.P = false) (hf : greatF v.fn v.fs = false) (kind e k : Int) (lo hi : Dn) (code : Int) (h : nodeQ v kind e k = (lo, hi, code)) :
  Calls Tryz.prog 27 #[.agg #[.int .i64 v.id, .int .i64 v.val, .bool v.up, .int .i64 v.kl, .int .i64 v.kt, .int .i64 v.ks, .int .i64 v.ke, .int .i64 v.kf, .bool v.P.M.S.s, .slice v.P.M.S.A v.P.M.S.n v.P.M.S.c, .int .i64 v.P.M.S.e, .bool v.P.M.W.s, .slice v.P.M.W.A v.P.M.W.n v.P.M.W.c, .int .i64 v.P.M.W.e, .bool v.P.M.C.s, .slice v.P.M.C.A v.P.M.C.n v.P.M.C.c, .int .i64 v.P.M.C.e, .bool v.P.M.A.s, .slice v.P.M.A.A v.P.M.A.n v.P.M.A.c, .int .i64 v.P.M.A.e, .bool v.P.h, .int .i64 v.P.mn, .int .i64 v.P.mx, .slice v.P.A v.P.n v.P.c, .bool v.wo, .int .i64 v.wn, .int .i64 v.wt, .slice v.hA v.hn v.hc, .int .i64 v.own, .int .i64 v.cap, .slice v.dA v.dn v.dc, .slice v.fA v.fn v.fc, .slice v.tA v.tn v.tc], .int .u8 kind, .int .i64 e, .int .i64 k] w (ToldR w lo hi code) := by
 obtain ⟨w1, hw1, bN, ja, S1⟩ := alloc_n 63 w v
 obtain ⟨w2, hw2, bT, jb, S2⟩ := alloc_zt w1
 have lw1 := ja.size
 have lw2 := jb.size
 obtain ⟨c, hc⟩ : ∃ c, partC v e = c := ⟨_, rfl⟩
 have HC := Lib.hid hc
 have HH := Lib.hid h
 clear hc h
 go_enter Tryz.func27, Tryz.ntmps27
 go_upto_region 1 with fail
 try rw [hw1]
 try rw [hw2]
 try clear hw1
 try clear hw2
 have rN := NBox.range (box_later bN jb S1)
 go_wp2_with (first | (refine wpList_load_mid rfl 63 (.tmp 4) rfl w.heap.size 0 rfl (cells33 v) _ rN Tryz.underlying63 rfl (by kernel_rfl) ?_; simp only [cells33]))
 refine (qPart_any w2 v (NRows.on hR (later ja jb)) hg hf e c HC.out).mono ?_
 rintro e' v9 ⟨q, rfl, tq, j10, Rq⟩
 try clear hw
 clear rN
 replace tq := Lib.hid tq
 replace Rq := Rq.more (Nat.zero_le _) (Nat.le_refl _)
 obtain ⟨u8, hu8, bQ, jq8, sq8⟩ := alloc_p v9 q
 go_upto_region 2 with (first
  | (refine wpList_store_nw rfl 30 (.tmp 10) (.tmp 16) rfl _ #[.bool q.M.S.s, .slice q.M.S.A q.M.S.n q.M.S.c, .int .i64 q.M.S.e, .bool q.M.W.s, .slice q.M.W.A q.M.W.n q.M.W.c, .int .i64 q.M.W.e, .bool q.M.C.s, .slice q.M.C.A q.M.C.n q.M.C.c, .int .i64 q.M.C.e, .bool q.M.A.s, .slice q.M.A.A q.M.A.n q.M.A.c, .int .i64 q.M.A.e, .bool q.h, .int .i64 q.mn, .int .i64 q.mx, .slice q.A q.n q.c] rfl rfl (by kernel_rfl) rfl (all_oneCell_toArray (cells16_one q)) ?_; rw [hu8]))
 try clear hu8
 have Rq8 := PRows.on Rq jq8
 by_cases h0 : c = 0
 rotate_left
 · skip
   have n0 : (c != 0) = true := by simpa using h0
   have h := HH.out
   unfold nodeQ at h
   rw [if_neg (by rw [HC.out]; exact h0)] at h
   injection h with h1 h2
   injection h2 with h2 h3
   rw [HC.out] at h3
   subst h1 h2 h3
   clear HH HC
   have bz_ : TBox u8 w1.heap.size ZDv ZDv := (box_later bT (later j10 jq8) S2)
   obtain ⟨U_, hU_, bU_, hb_, hf_, l5_, l5'_⟩ := told_into bz_ ZDv ZDv
   have th_ := TBox.there bz_
   replace hU_ : u8.setCells (w1.heap.size) 0 (#[.bool false, .slice none 0 0, .int .i64 0, .bool false, .slice none 0 0, .int .i64 0] : Array Value).toList = U_ := hU_
   have HU_ := Lib.hid hU_
   clear hU_
   have fin_ := hb_ _ _ (later ja (later jb (later j10 jq8))) (by omega)
   go_wp2_with (first | (refine wpList_store_mid rfl 32 (.tmp 8) (.tmp 20) rfl w1.heap.size 0 #[.bool false, .slice none 0 0, .int .i64 0, .bool false, .slice none 0 0, .int .i64 0] rfl rfl th_ (by kernel_rfl) (all_oneCell_toArray (cells6D_one ZDv ZDv)) ?_; rw [HU_.out]))
   exact bodyPost_ret (results_row_slot Tryz.results27 _ _ w1.heap.size 32 #[.bool false, .slice none 0 0, .int .i64 0, .bool false, .slice none 0 0, .int .i64 0] (0, 0) _ (.int .i64 c) rfl rfl bU_ Tryz.underlying32 rfl (by kernel_rfl)) rfl (told_zero _ _ _ fin_)
 subst h0
 have HA : Hid (askQ (partV v e) kind k = (lo, hi, code)) := Lib.hid (by have := HH.out; unfold nodeQ at this; rw [if_pos HC.out] at this; exact this)
 clear HH HC
 have rP := PBox.range bQ
 go_wp2_with (first
  | (refine wpList_load_mid rfl 30 (.tmp 10) rfl (v9.heap.size) 0 rfl [.bool q.M.S.s, .slice q.M.S.A q.M.S.n q.M.S.c, .int .i64 q.M.S.e, .bool q.M.W.s, .slice q.M.W.A q.M.W.n q.M.W.c, .int .i64 q.M.W.e, .bool q.M.C.s, .slice q.M.C.A q.M.C.n q.M.C.c, .int .i64 q.M.C.e, .bool q.M.A.s, .slice q.M.A.A q.M.A.n q.M.A.c, .int .i64 q.M.A.e, .bool q.h, .int .i64 q.mn, .int .i64 q.mx, .slice q.A q.n q.c] _ rP Tryz.underlying30 rfl (by kernel_rfl) ?_))
 have bT_ : TBox u8 (w1.heap.size) ZDv ZDv := (box_later bT (later j10 jq8) S2)
 have bl_ : Below w.heap.size w u8 := (later ja (later jb (later j10 jq8)))
 have su8 := Below.size (later j10 jq8)
 have su8b := Below.size bl_
 refine (Ask_any u8 q Rq8 (tab_later hT bl_) kind k lo hi code ((askQ_twin tq.out kind k).trans HA.out)).mono ?_
 rintro e' u ⟨x, y, B, rfl, ix, iy, ju, l1, l2, rx, ry⟩
 clear rP
 have su := ju.size
 have bTu : TBox u (w1.heap.size) ZDv ZDv := (ju.block _ (by omega)).trans bT_
 have bu : Below w.heap.size w u := bl_.trans (ju.mono (by omega))
 obtain ⟨U, hU, bF, hbF, hfF, g1, g1'⟩ := told_into bTu x y
 have th := TBox.there bTu
 replace hU : u.setCells (w1.heap.size) 0 (#[.bool x.s, .slice x.A x.n x.c, .int .i64 x.e, .bool y.s, .slice y.A y.n y.c, .int .i64 y.e] : Array Value).toList = U := hU
 have HU := Lib.hid hU
 clear hU
 go_wp2_with (first
  | (refine wpList_store_mid rfl 32 (.tmp 8) (.tmp 26) rfl (w1.heap.size) 0 #[.bool x.s, .slice x.A x.n x.c, .int .i64 x.e, .bool y.s, .slice y.A y.n y.c, .int .i64 y.e] rfl rfl th (by kernel_rfl) (all_oneCell_toArray (cells6D_one x y)) ?_; rw [HU.out]))
 have fin := hbF _ _ bu (by omega)
 exact bodyPost_ret (results_row_slot Tryz.results27 _ _ (w1.heap.size) 32 #[.bool x.s, .slice x.A x.n x.c, .int .i64 x.e, .bool y.s, .slice y.A y.n y.c, .int .i64 y.e] (0, 0) _ (.int .i64 code) rfl rfl bF Tryz.underlying32 rfl (by kernel_rfl)) rfl ⟨x, y, B, rfl, ix, iy, fin, by omega, by omega, (intsR rx (w' := U) (fun b h1 h2 => hfF b (by omega))).more (by omega) (Nat.le_refl _), (intsR ry (w' := U) (fun b h1 h2 => hfF b (by omega))).more (Nat.le_refl _) (by omega)⟩
end No
end Go.Proofs.YtmbppgjhdcmckaaGreatDoor
namespace Go.Proofs.YtmbppgjhdcmckaaGreatDoor
open Go.RowKit
namespace No
open Ma (Pv PRows greatP greatF)
open Dy
/-- Is a node great? -/
def greatN (v : Nv) : Bool := greatP v.P || (decide (100 < (v.hn : Int)) || (decide (70 < (v.dn : Int)) || (greatF v.fn v.fs || decide (100 < (v.tn : Int)))))
set_option maxHeartbeats 51200000 in
set_option maxRecDepth 100000 in
/-- headcountref22.Great. -/
theorem rGreatN_any (w : World) (v : Nv) (hR : NRows w 0 w.heap.size v) (k : Bool) (hk : greatN v = k) :
  Calls Tryz.prog 24 #[.agg #[.int .i64 v.id, .int .i64 v.val, .bool v.up, .int .i64 v.kl, .int .i64 v.kt, .int .i64 v.ks, .int .i64 v.ke, .int .i64 v.kf, .bool v.P.M.S.s, .slice v.P.M.S.A v.P.M.S.n v.P.M.S.c, .int .i64 v.P.M.S.e, .bool v.P.M.W.s, .slice v.P.M.W.A v.P.M.W.n v.P.M.W.c, .int .i64 v.P.M.W.e, .bool v.P.M.C.s, .slice v.P.M.C.A v.P.M.C.n v.P.M.C.c, .int .i64 v.P.M.C.e, .bool v.P.M.A.s, .slice v.P.M.A.A v.P.M.A.n v.P.M.A.c, .int .i64 v.P.M.A.e, .bool v.P.h, .int .i64 v.P.mn, .int .i64 v.P.mx, .slice v.P.A v.P.n v.P.c, .bool v.wo, .int .i64 v.wn, .int .i64 v.wt, .slice v.hA v.hn v.hc, .int .i64 v.own, .int .i64 v.cap, .slice v.dA v.dn v.dc, .slice v.fA v.fn v.fc, .slice v.tA v.tn v.tc]] w fun e w' => e = .returned (.bool k) ∧ Below w.heap.size w w' := by
 obtain ⟨w1, hw1, bN, j1, S1⟩ := alloc_n 63 w v
 have HK := Lib.hid hk
 clear hk
 obtain ⟨c1, h1⟩ : ∃ c, greatP v.P = c := ⟨_, rfl⟩
 obtain ⟨c4, h4⟩ : ∃ c, greatF v.fn v.fs = c := ⟨_, rfl⟩
 have H1 := Lib.hid h1
 have H4 := Lib.hid h4
 clear h1 h4
 go_enter Tryz.func24, Tryz.ntmps24
 go_upto_region 1 with fail
 try rw [hw1]
 try clear hw1
 have ra := NBox.part bN
 go_wp2_with (first
  | (refine wpList_load_mid rfl 30 (.tmp 3) rfl (w.heap.size) 8 rfl [.bool v.P.M.S.s, .slice v.P.M.S.A v.P.M.S.n v.P.M.S.c, .int .i64 v.P.M.S.e, .bool v.P.M.W.s, .slice v.P.M.W.A v.P.M.W.n v.P.M.W.c, .int .i64 v.P.M.W.e, .bool v.P.M.C.s, .slice v.P.M.C.A v.P.M.C.n v.P.M.C.c, .int .i64 v.P.M.C.e, .bool v.P.M.A.s, .slice v.P.M.A.A v.P.M.A.n v.P.M.A.c, .int .i64 v.P.M.A.e, .bool v.P.h, .int .i64 v.P.mn, .int .i64 v.P.mx, .slice v.P.A v.P.n v.P.c] _ ra Tryz.underlying30 rfl (by kernel_rfl) ?_))
 refine (Ma.GreatPart_any w1 v.P (NRows.on hR j1).P c1 H1.out).mono ?_
 rintro e' v1 ⟨rfl, j2⟩
 try clear hw
 clear ra
 cases c1
 case true =>
  obtain rfl : k = true := by rw [← HK.out]; unfold greatN; rw [H1.out]; rfl
  go_wp2
  go_ret
  exact ⟨rfl, (later j1 j2)⟩
 obtain ⟨c2, h2⟩ : ∃ c, decide (100 < (v.hn : Int)) = c := ⟨_, rfl⟩
 obtain ⟨c3, h3⟩ : ∃ c, decide (70 < (v.dn : Int)) = c := ⟨_, rfl⟩
 have H2 := Lib.hid h2
 have H3 := Lib.hid h3
 have c27 : v1.cell? ⟨w.heap.size, 27, none⟩ = some (.slice v.hA v.hn v.hc) := NBox.at_ (box_later bN j2 S1) 27 _ rfl
 have c28 : v1.cell? ⟨w.heap.size, 28, none⟩ = some (.int .i64 v.own) := NBox.at_ (box_later bN j2 S1) 28 _ rfl
 have c29 : v1.cell? ⟨w.heap.size, 29, none⟩ = some (.int .i64 v.cap) := NBox.at_ (box_later bN j2 S1) 29 _ rfl
 have c30 : v1.cell? ⟨w.heap.size, 30, none⟩ = some (.slice v.dA v.dn v.dc) := NBox.at_ (box_later bN j2 S1) 30 _ rfl
 cases c2
 case true =>
  obtain rfl : k = true := by rw [← HK.out]; unfold greatN; rw [H1.out, H2.out]; rfl
  go_wp2
  go_ret
  exact ⟨rfl, (later j1 j2)⟩
 cases c3
 case true =>
  obtain rfl : k = true := by rw [← HK.out]; unfold greatN; rw [H1.out, H2.out, H3.out]; rfl
  go_wp2
  go_ret
  exact ⟨rfl, (later j1 j2)⟩
 have c31 : v1.cell? ⟨w.heap.size, 31, none⟩ = some (.slice v.fA v.fn v.fc) := NBox.at_ (box_later bN j2 S1) 31 _ rfl
 go_wp2_with fail
 refine (Ma.GreatF_any v1 v.fA v.fn v.fc v.fs (NRows.on hR (later j1 j2)).F c4 H4.out).mono ?_
 rintro e' v3 ⟨rfl, j4⟩
 try clear hw
 clear h2 h3 c27 c28 c29 c30 c31
 cases c4
 case true =>
  obtain rfl : k = true := by rw [← HK.out]; unfold greatN; rw [H1.out, H2.out, H3.out, H4.out]; rfl
  go_wp2
  go_ret
  exact ⟨rfl, (later j1 (later j2 j4))⟩
 have c32 : v3.cell? ⟨w.heap.size, 32, none⟩ = some (.slice v.tA v.tn v.tc) := NBox.at_ (box_later bN (later j2 j4) S1) 32 _ rfl
 obtain ⟨c5, h5⟩ : ∃ c, decide (100 < (v.tn : Int)) = c := ⟨_, rfl⟩
 have H5 := Lib.hid h5
 obtain rfl : k = c5 := by rw [← HK.out]; unfold greatN; rw [H1.out, H2.out, H3.out, H4.out, H5.out]; rfl
 go_wp2
 go_ret
 exact ⟨rfl, (later j1 (later j2 j4))⟩
end No
end Go.Proofs.YtmbppgjhdcmckaaGreatDoor
namespace Go.Proofs.YtmbppgjhdcmckaaGreatDoor
open Go.RowKit
namespace No
open Ma
open Dp Dy
theorem fault_none {v : Nv} (h : anyFault v = false) : fault1N v = false ∧ fault6N v = false := by
 unfold anyFault at h
 simp only [Bool.or_eq_false_iff] at h
 exact ⟨h.1, h.2.2.2.2.2.1⟩
theorem mayN_up {v : Nv} (h : mayN v = true) (hu : v.up = true) : mayCl v.kl v.kt v.ks v.ke v.kf = true ∧ checkF v.fn v.fs = 0 := by
 unfold mayN at h
 rw [if_pos hu] at h
 simp only [Bool.and_eq_true, Bool.not_eq_true'] at h
 obtain ⟨h1, h6⟩ := fault_none h.2.2
 unfold fault1N at h1
 unfold fault6N at h6
 simp only [Bool.or_eq_false_iff, Bool.not_eq_false'] at h1
 simp only [decide_eq_false_iff_not, Decidable.not_not] at h6
 exact ⟨h1.2, h6⟩
theorem part_bad {v : Nv} {e : Int} (h : mayN v = true → v.up = true → e < 0 ∨ 65535 < e) : partC v e ≠ 0 := by
 unfold partC
 cases hm : mayN v
 · rw [if_pos rfl]; decide
 · rw [if_neg (by decide)]
   cases hu : v.up
   · rw [if_pos rfl]; decide
   · rw [if_neg (by decide)]
     have he := h hm hu
     obtain ⟨hc, hf⟩ := mayN_up hm hu
     unfold mayCl at hc
     simp only [decide_eq_true_eq] at hc
     have hne : (e == v.ke) = false := by
      have : e ≠ v.ke := by omega
      simpa using this
     rw [hne, if_neg (by simp)]
     unfold getF askF
     have h2 : (if checkF v.fn v.fs ≠ 0 then checkF v.fn v.fs else if e < 0 ∨ 65535 < e then 2 else 0) = (2 : Int) := by rw [if_neg (by rw [hf]; simp), if_pos he]
     rw [if_pos (by rw [h2]; decide), h2]
     decide
theorem get_six {v : Nv} {e c : Int} (hm : mayN v = true) (hu : v.up = true) (h0 : 0 ≤ e) (h1 : e ≤ 65535) (hc : getF v.fn v.fs e = c) : c = 0 ∨ c = 6 := by
 obtain ⟨_, hf⟩ := mayN_up hm hu
 subst hc
 unfold getF askF
 rw [if_neg (by rw [if_neg (by rw [hf]; simp), if_neg (by omega)]; simp)]
 split
 · split
   · exact .inl rfl
   · exact .inr rfl
 · exact .inr rfl
theorem node_bad {v : Nv} {e : Int} (h : partC v e ≠ 0) (kind k : Int) : nodeQ v kind e k = (Dn.zero, Dn.zero, partC v e) := by unfold nodeQ; rw [if_neg h]
theorem sameT_zero {x y : Dv} (ix : Is Dn.zero x) (iy : Is Dn.zero y) : sameT x y ZDv ZDv = true := by unfold sameT; rw [Is.same ix isZ, Is.same iy isZ]; rfl
theorem sameT_is {lo hi : Dn} {x y x' y' : Dv} (ix : Is lo x) (iy : Is hi y) (ix' : Is lo x') (iy' : Is hi y') : sameT x y x' y' = true := by unfold sameT; rw [Is.same ix ix', Is.same iy iy']; rfl
set_option maxHeartbeats 51200000 in
set_option maxRecDepth 100000 in
/-- headcountlaw25.QueryFrozen. -/
theorem frozen25_walk (w : World) (v : Nv) (hR : NRows w 0 w.heap.size v) (kind e k : Int) (hT : Tab w) :
  Calls Tryz.prog 6 #[.agg #[.int .i64 v.id, .int .i64 v.val, .bool v.up, .int .i64 v.kl, .int .i64 v.kt, .int .i64 v.ks, .int .i64 v.ke, .int .i64 v.kf, .bool v.P.M.S.s, .slice v.P.M.S.A v.P.M.S.n v.P.M.S.c, .int .i64 v.P.M.S.e, .bool v.P.M.W.s, .slice v.P.M.W.A v.P.M.W.n v.P.M.W.c, .int .i64 v.P.M.W.e, .bool v.P.M.C.s, .slice v.P.M.C.A v.P.M.C.n v.P.M.C.c, .int .i64 v.P.M.C.e, .bool v.P.M.A.s, .slice v.P.M.A.A v.P.M.A.n v.P.M.A.c, .int .i64 v.P.M.A.e, .bool v.P.h, .int .i64 v.P.mn, .int .i64 v.P.mx, .slice v.P.A v.P.n v.P.c, .bool v.wo, .int .i64 v.wn, .int .i64 v.wt, .slice v.hA v.hn v.hc, .int .i64 v.own, .int .i64 v.cap, .slice v.dA v.dn v.dc, .slice v.fA v.fn v.fc, .slice v.tA v.tn v.tc], .int .u8 kind, .int .i64 e, .int .i64 k] w fun e_ w' => e_ = .returned (.bool true) ∧ Below w.heap.size w w' := by
 obtain ⟨w1, hw1, bN, ja, S1⟩ := alloc_n 63 w v
 obtain ⟨g, hg⟩ : ∃ g, greatN v = g := ⟨_, rfl⟩
 have HG := Lib.hid hg
 obtain ⟨m, hm⟩ : ∃ m, mayN v = m := ⟨_, rfl⟩
 have HM := Lib.hid hm
 obtain ⟨c, hc⟩ : ∃ c, partC v e = c := ⟨_, rfl⟩
 have HC := Lib.hid hc
 obtain ⟨lo, hi, code, hq⟩ : ∃ x y z, nodeQ v kind e k = (x, y, z) := ⟨_, _, _, rfl⟩
 have HQ := Lib.hid hq
 clear hg hm hc hq
 go_enter Tryz.func6, Tryz.ntmps6
 go_upto_region 1 with fail
 try rw [hw1]
 try clear hw1
 go_wp2_with fail
 refine (alive25_any w1 (tab_later hT ja)).mono ?_
 rintro e' v1 ⟨rfl, j2⟩
 try clear hw
 have rN := NBox.range (box_later bN j2 S1)
 go_wp2_with (first
  | (refine wpList_load_mid rfl 63 (.tmp 4) rfl w.heap.size 0 rfl (cells33 v) _ rN Tryz.underlying63 rfl (by kernel_rfl) ?_; simp only [cells33]))
 refine (rGreatN_any v1 v (NRows.on hR (later ja j2)) g HG.out).mono ?_
 rintro e' v3 ⟨rfl, j4⟩
 try clear hw
 clear rN
 cases g
 case true =>
  go_wp2
  go_ret
  exact ⟨rfl, (later ja (later j2 j4))⟩
 have hgs : Hid (greatP v.P = false ∧ greatF v.fn v.fs = false) := Lib.hid (by
  have := HG.out
  unfold greatN at this
  simp only [Bool.or_eq_false_iff] at this
  exact ⟨this.1, this.2.2.2.1⟩)
 have hs := Lib.hid (small_list hR.F hgs.out.2)
 have rN := NBox.range (box_later bN (later j2 j4) S1)
 go_wp2_with (first
  | (refine wpList_load_mid rfl 63 (.tmp 4) rfl w.heap.size 0 rfl (cells33 v) _ rN Tryz.underlying63 rfl (by kernel_rfl) ?_; simp only [cells33]))
 refine (qNode_any v3 v (NRows.on hR (later ja (later j2 j4))) (tab_later hT (later ja (later j2 j4))) hgs.out.1 hgs.out.2 kind e k lo hi code HQ.out).mono ?_
 rintro e' v5 ⟨x, y, B, rfl, ix, iy, j6, l1, l2, rx, ry⟩
 try clear hw
 clear rN
 replace ix := Lib.hid ix
 replace iy := Lib.hid iy
 have dX : DRow v5 0 v5.heap.size x := Ints.more rx (Nat.zero_le _) l2
 have dY : DRow v5 0 v5.heap.size y := Ints.more ry (Nat.zero_le _) (Nat.le_refl _)
 obtain ⟨u7, h10, bX, j8, s9⟩ := alloc_t v5 x y
 go_upto_region 5 with (first | (refine wpList_store_nw rfl 32 (.tmp 10) (.tmp 30) rfl _ #[.bool x.s, .slice x.A x.n x.c, .int .i64 x.e, .bool y.s, .slice y.A y.n y.c, .int .i64 y.e] rfl rfl (by kernel_rfl) rfl (all_oneCell_toArray (cells6D_one x y)) ?_; rw [h10]))
 try clear h10
 have rN := NBox.range (box_later bN (later j2 (later j4 (later j6 j8))) S1)
 go_wp2_with (first
  | (refine wpList_load_mid rfl 63 (.tmp 4) rfl w.heap.size 0 rfl (cells33 v) _ rN Tryz.underlying63 rfl (by kernel_rfl) ?_; simp only [cells33]))
 refine (nCheck_any u7 v (NRows.on hR (later ja (later j2 (later j4 (later j6 j8))))) m HM.out).mono ?_
 rintro e' v11 ⟨rfl, j12⟩
 try clear hw
 clear rN
 obtain ⟨up, hup⟩ : ∃ b, v.up = b := ⟨_, rfl⟩
 have HU := Lib.hid hup
 have c2 : v11.cell? ⟨w.heap.size, 2, none⟩ = some (.bool up) := (NBox.at_ (box_later bN (later j2 (later j4 (later j6 (later j8 j12)))) S1) 2 _ rfl).trans (by rw [hup])
 clear hup
 cases m
 case false =>
  have hp := part_bad (v := v) (e := e) (fun h1 h2 => absurd h1 (by rw [HM.out]; decide))
  have hq2 := HQ.out
  rw [node_bad hp] at hq2
  have hz : lo = Dn.zero ∧ hi = Dn.zero ∧ code ≠ 0 := by
   injection hq2 with h1 h2
   injection h2 with h2 h3
   exact ⟨h1.symm, h2.symm, by rw [← h3]; exact hp⟩
  obtain ⟨rfl, rfl, h0⟩ := hz
  have n0 : (code != 0) = true := by simpa using h0
  have hsm := Lib.hid (sameT_zero ix.out iy.out)
  clear HQ HC hp hq2
  have rT := TBox.range (box_later bX j12 s9)
  go_wp2_with (first
   | (refine wpList_load_midG (by rfl) 32 (.tmp 10) rfl (v5.heap.size) 0 rfl [.bool x.s, .slice x.A x.n x.c, .int .i64 x.e, .bool y.s, .slice y.A y.n y.c, .int .i64 y.e] _ rT Tryz.underlying32 rfl (by kernel_rfl) ?_))
  refine (qSame_any v11 x y ZDv ZDv (ints_on dX (later j8 j12)) (ints_on dY (later j8 j12)) (rowZ _ _ _) (rowZ _ _ _) true hsm.out).mono ?_
  rintro e' v13 ⟨rfl, j14⟩
  try clear hw
  clear rT
  go_wp2
  go_ret
  exact ⟨rfl, (later ja (later j2 (later j4 (later j6 (later j8 (later j12 j14))))))⟩
 cases up
 case false =>
  have hp := part_bad (v := v) (e := e) (fun h1 h2 => absurd h2 (by rw [HU.out]; decide))
  have hq2 := HQ.out
  rw [node_bad hp] at hq2
  have hz : lo = Dn.zero ∧ hi = Dn.zero ∧ code ≠ 0 := by
   injection hq2 with h1 h2
   injection h2 with h2 h3
   exact ⟨h1.symm, h2.symm, by rw [← h3]; exact hp⟩
  obtain ⟨rfl, rfl, h0⟩ := hz
  have n0 : (code != 0) = true := by simpa using h0
  have hsm := Lib.hid (sameT_zero ix.out iy.out)
  clear HQ HC hp hq2
  have rT := TBox.range (box_later bX j12 s9)
  go_wp2_with (first
   | (refine wpList_load_midG (by rfl) 32 (.tmp 10) rfl (v5.heap.size) 0 rfl [.bool x.s, .slice x.A x.n x.c, .int .i64 x.e, .bool y.s, .slice y.A y.n y.c, .int .i64 y.e] _ rT Tryz.underlying32 rfl (by kernel_rfl) ?_))
  refine (qSame_any v11 x y ZDv ZDv (ints_on dX (later j8 j12)) (ints_on dY (later j8 j12)) (rowZ _ _ _) (rowZ _ _ _) true hsm.out).mono ?_
  rintro e' v15 ⟨rfl, j16⟩
  try clear hw
  clear rT
  go_wp2
  go_ret
  exact ⟨rfl, (later ja (later j2 (later j4 (later j6 (later j8 (later j12 j16))))))⟩
 by_cases he0 : e < 0
 · skip
   have hp := part_bad (v := v) (e := e) (fun h1 h2 => .inl he0)
   have hq2 := HQ.out
   rw [node_bad hp] at hq2
   have hz : lo = Dn.zero ∧ hi = Dn.zero ∧ code ≠ 0 := by
    injection hq2 with h1 h2
    injection h2 with h2 h3
    exact ⟨h1.symm, h2.symm, by rw [← h3]; exact hp⟩
   obtain ⟨rfl, rfl, h0⟩ := hz
   have n0 : (code != 0) = true := by simpa using h0
   have hsm := Lib.hid (sameT_zero ix.out iy.out)
   clear HQ HC hp hq2
   have rT := TBox.range (box_later bX j12 s9)
   go_wp2_with (first
    | (refine wpList_load_midG (by rfl) 32 (.tmp 10) rfl (v5.heap.size) 0 rfl [.bool x.s, .slice x.A x.n x.c, .int .i64 x.e, .bool y.s, .slice y.A y.n y.c, .int .i64 y.e] _ rT Tryz.underlying32 rfl (by kernel_rfl) ?_))
   refine (qSame_any v11 x y ZDv ZDv (ints_on dX (later j8 j12)) (ints_on dY (later j8 j12)) (rowZ _ _ _) (rowZ _ _ _) true hsm.out).mono ?_
   rintro e' v17 ⟨rfl, j18⟩
   try clear hw
   clear rT
   go_wp2
   go_ret
   exact ⟨rfl, (later ja (later j2 (later j4 (later j6 (later j8 (later j12 j18))))))⟩
 by_cases he1 : 65535 < e
 · skip
   have hp := part_bad (v := v) (e := e) (fun h1 h2 => .inr he1)
   have hq2 := HQ.out
   rw [node_bad hp] at hq2
   have hz : lo = Dn.zero ∧ hi = Dn.zero ∧ code ≠ 0 := by
    injection hq2 with h1 h2
    injection h2 with h2 h3
    exact ⟨h1.symm, h2.symm, by rw [← h3]; exact hp⟩
   obtain ⟨rfl, rfl, h0⟩ := hz
   have n0 : (code != 0) = true := by simpa using h0
   have hsm := Lib.hid (sameT_zero ix.out iy.out)
   clear HQ HC hp hq2
   have rT := TBox.range (box_later bX j12 s9)
   go_wp2_with (first
    | (refine wpList_load_midG (by rfl) 32 (.tmp 10) rfl (v5.heap.size) 0 rfl [.bool x.s, .slice x.A x.n x.c, .int .i64 x.e, .bool y.s, .slice y.A y.n y.c, .int .i64 y.e] _ rT Tryz.underlying32 rfl (by kernel_rfl) ?_))
   refine (qSame_any v11 x y ZDv ZDv (ints_on dX (later j8 j12)) (ints_on dY (later j8 j12)) (rowZ _ _ _) (rowZ _ _ _) true hsm.out).mono ?_
   rintro e' v19 ⟨rfl, j20⟩
   try clear hw
   clear rT
   go_wp2
   go_ret
   exact ⟨rfl, (later ja (later j2 (later j4 (later j6 (later j8 (later j12 j20))))))⟩
 have d0 : decide (e < 0) = false := decide_eq_false he0
 have d1 : decide (65535 < e) = false := decide_eq_false he1
 obtain ⟨c0, hc0⟩ : ∃ c, getF v.fn v.fs e = c := ⟨_, rfl⟩
 have H6 := Lib.hid (get_six HM.out HU.out (by omega) (by omega) hc0)
 have H0 := Lib.hid hc0
 clear hc0
 have c31 : v11.cell? ⟨w.heap.size, 31, none⟩ = some (.slice v.fA v.fn v.fc) := NBox.at_ (box_later bN (later j2 (later j4 (later j6 (later j8 j12)))) S1) 31 _ rfl
 go_wp2_with fail
 refine (Get_any v11 v.fA v.fn v.fc v.fs (NRows.on hR (later ja (later j2 (later j4 (later j6 (later j8 j12)))))).F e hs.out c0 H0.out).mono ?_
 rintro e' v21 ⟨q, rfl, tq, j22, Rq⟩
 try clear hw
 replace tq := Lib.hid tq
 replace Rq := Rq.more (Nat.zero_le _) (Nat.le_refl _)
 clear d0 d1 c2 c31
 obtain ⟨u8, hu8, bQ, jq8, sq8⟩ := alloc_p v21 q
 go_upto_region 8 with (first
  | (refine wpList_store_nw rfl 30 (.tmp 12) (.tmp 63) rfl _ #[.bool q.M.S.s, .slice q.M.S.A q.M.S.n q.M.S.c, .int .i64 q.M.S.e, .bool q.M.W.s, .slice q.M.W.A q.M.W.n q.M.W.c, .int .i64 q.M.W.e, .bool q.M.C.s, .slice q.M.C.A q.M.C.n q.M.C.c, .int .i64 q.M.C.e, .bool q.M.A.s, .slice q.M.A.A q.M.A.n q.M.A.c, .int .i64 q.M.A.e, .bool q.h, .int .i64 q.mn, .int .i64 q.mx, .slice q.A q.n q.c] rfl rfl (by kernel_rfl) rfl (all_oneCell_toArray (cells16_one q)) ?_; rw [hu8]))
 try clear hu8
 have Rq8 := PRows.on Rq jq8
 clear Rq
 obtain ⟨b1, hb1⟩ : ∃ b, (e == v.ke) = b := ⟨_, rfl⟩
 obtain ⟨b2, hb2⟩ : ∃ b, decide (v.kf ≤ e) = b := ⟨_, rfl⟩
 have HB1 := Lib.hid hb1
 have HB2 := Lib.hid hb2
 have c6 : u8.cell? ⟨w.heap.size, 6, none⟩ = some (.int .i64 v.ke) := NBox.at_ (box_later bN (later j2 (later j4 (later j6 (later j8 (later j12 (later j22 jq8)))))) S1) 6 _ rfl
 have c7 : u8.cell? ⟨w.heap.size, 7, none⟩ = some (.int .i64 v.kf) := NBox.at_ (box_later bN (later j2 (later j4 (later j6 (later j8 (later j12 (later j22 jq8)))))) S1) 7 _ rfl
 cases b1
 case false =>
  have hcn : Hid (¬((e == v.ke) && decide (v.kf ≤ e)) = true) := Lib.hid (by rw [HB1.out]; simp)
  have HP0 : Hid (partC v e = c0) := Lib.hid (by unfold partC; rw [if_neg (by rw [HM.out]; decide), if_neg (by rw [HU.out]; decide), if_neg hcn.out]; exact H0.out)
  rcases H6.out with h0 | h0
  rotate_left
  · skip
    subst h0
    obtain rfl : code = 6 := by
     have h := HQ.out
     rw [node_bad (by rw [HP0.out]; decide), HP0.out] at h
     injection h with h1 h2
     injection h2 with h2 h3
     exact h3.symm
    clear HQ HC
    go_wp2
    go_ret
    exact ⟨rfl, (later ja (later j2 (later j4 (later j6 (later j8 (later j12 (later j22 jq8)))))))⟩
  subst h0
  have HP := HP0
  have hV : Hid (partV v e = gotF 0 v.fs e) := Lib.hid (by unfold partV; rw [if_pos HP.out, if_neg hcn.out])
  have rP := PBox.range bQ
  have hA : Hid (askQ (partV v e) kind k = (lo, hi, code)) := Lib.hid (by have := HQ.out; unfold nodeQ at this; rw [if_pos HP.out] at this; exact this)
  go_wp2_with (first
   | (refine wpList_load_mid rfl 30 (.tmp 12) rfl (v21.heap.size) 0 rfl [.bool q.M.S.s, .slice q.M.S.A q.M.S.n q.M.S.c, .int .i64 q.M.S.e, .bool q.M.W.s, .slice q.M.W.A q.M.W.n q.M.W.c, .int .i64 q.M.W.e, .bool q.M.C.s, .slice q.M.C.A q.M.C.n q.M.C.c, .int .i64 q.M.C.e, .bool q.M.A.s, .slice q.M.A.A q.M.A.n q.M.A.c, .int .i64 q.M.A.e, .bool q.h, .int .i64 q.mn, .int .i64 q.mx, .slice q.A q.n q.c] _ rP Tryz.underlying30 rfl (by kernel_rfl) ?_))
  refine (Ask_any u8 q Rq8 (tab_later hT (later ja (later j2 (later j4 (later j6 (later j8 (later j12 (later j22 jq8)))))))) kind k lo hi code (Eq.trans (askQ_twin (show TwinP (partV v e) q by rw [hV.out]; exact tq.out) kind k) hA.out)).mono ?_
  rintro e' v23 ⟨x2, y2, B2, rfl, ix2, iy2, j24, m1, m2, rx2, ry2⟩
  try clear hw
  clear rP
  have hsm := Lib.hid (sameT_is ix.out iy.out ix2 iy2)
  clear ix2 iy2
  have dX2 : DRow v23 0 v23.heap.size x2 := Ints.more rx2 (Nat.zero_le _) m2
  have dY2 : DRow v23 0 v23.heap.size y2 := Ints.more ry2 (Nat.zero_le _) (Nat.le_refl _)
  obtain ⟨u25, h28, bY, j26, s27⟩ := alloc_t v23 x2 y2
  go_upto_region 13 with (first | (refine wpList_store_nw rfl 32 (.tmp 14) (.tmp 91) rfl _ #[.bool x2.s, .slice x2.A x2.n x2.c, .int .i64 x2.e, .bool y2.s, .slice y2.A y2.n y2.c, .int .i64 y2.e] rfl rfl (by kernel_rfl) rfl (all_oneCell_toArray (cells6D_one x2 y2)) ?_; rw [h28]))
  try clear h28
  have rX := TBox.range (box_later bX (later j12 (later j22 (later jq8 (later j24 j26)))) s9)
  have rY := TBox.range bY
  go_wp2_with (first
   | (refine wpList_load_midG (by rfl) 32 (.tmp 10) rfl (v5.heap.size) 0 rfl [.bool x.s, .slice x.A x.n x.c, .int .i64 x.e, .bool y.s, .slice y.A y.n y.c, .int .i64 y.e] _ rX Tryz.underlying32 rfl (by kernel_rfl) ?_)
   | (refine wpList_load_midG (by rfl) 32 (.tmp 14) rfl (v23.heap.size) 0 rfl [.bool x2.s, .slice x2.A x2.n x2.c, .int .i64 x2.e, .bool y2.s, .slice y2.A y2.n y2.c, .int .i64 y2.e] _ rY Tryz.underlying32 rfl (by kernel_rfl) ?_))
  refine (qSame_any u25 x y x2 y2 (ints_on dX (later j8 (later j12 (later j22 (later jq8 (later j24 j26)))))) (ints_on dY (later j8 (later j12 (later j22 (later jq8 (later j24 j26)))))) (ints_on dX2 j26) (ints_on dY2 j26) true hsm.out).mono ?_
  rintro e' v29 ⟨rfl, j30⟩
  try clear hw
  clear rX rY
  go_wp2
  go_ret
  exact ⟨rfl, (later ja (later j2 (later j4 (later j6 (later j8 (later j12 (later j22 (later jq8 (later j24 (later j26 j30))))))))))⟩
 cases b2
 case false =>
  have hcn : Hid (¬((e == v.ke) && decide (v.kf ≤ e)) = true) := Lib.hid (by rw [HB1.out, HB2.out]; simp)
  have HP0 : Hid (partC v e = c0) := Lib.hid (by unfold partC; rw [if_neg (by rw [HM.out]; decide), if_neg (by rw [HU.out]; decide), if_neg hcn.out]; exact H0.out)
  rcases H6.out with h0 | h0
  rotate_left
  · skip
    subst h0
    obtain rfl : code = 6 := by
     have h := HQ.out
     rw [node_bad (by rw [HP0.out]; decide), HP0.out] at h
     injection h with h1 h2
     injection h2 with h2 h3
     exact h3.symm
    clear HQ HC
    go_wp2
    go_ret
    exact ⟨rfl, (later ja (later j2 (later j4 (later j6 (later j8 (later j12 (later j22 jq8)))))))⟩
  subst h0
  have HP := HP0
  have hV : Hid (partV v e = gotF 0 v.fs e) := Lib.hid (by unfold partV; rw [if_pos HP.out, if_neg hcn.out])
  have rP := PBox.range bQ
  have hA : Hid (askQ (partV v e) kind k = (lo, hi, code)) := Lib.hid (by have := HQ.out; unfold nodeQ at this; rw [if_pos HP.out] at this; exact this)
  go_wp2_with (first
   | (refine wpList_load_mid rfl 30 (.tmp 12) rfl (v21.heap.size) 0 rfl [.bool q.M.S.s, .slice q.M.S.A q.M.S.n q.M.S.c, .int .i64 q.M.S.e, .bool q.M.W.s, .slice q.M.W.A q.M.W.n q.M.W.c, .int .i64 q.M.W.e, .bool q.M.C.s, .slice q.M.C.A q.M.C.n q.M.C.c, .int .i64 q.M.C.e, .bool q.M.A.s, .slice q.M.A.A q.M.A.n q.M.A.c, .int .i64 q.M.A.e, .bool q.h, .int .i64 q.mn, .int .i64 q.mx, .slice q.A q.n q.c] _ rP Tryz.underlying30 rfl (by kernel_rfl) ?_))
  refine (Ask_any u8 q Rq8 (tab_later hT (later ja (later j2 (later j4 (later j6 (later j8 (later j12 (later j22 jq8)))))))) kind k lo hi code (Eq.trans (askQ_twin (show TwinP (partV v e) q by rw [hV.out]; exact tq.out) kind k) hA.out)).mono ?_
  rintro e' v31 ⟨x2, y2, B2, rfl, ix2, iy2, j32, m1, m2, rx2, ry2⟩
  try clear hw
  clear rP
  have hsm := Lib.hid (sameT_is ix.out iy.out ix2 iy2)
  clear ix2 iy2
  have dX2 : DRow v31 0 v31.heap.size x2 := Ints.more rx2 (Nat.zero_le _) m2
  have dY2 : DRow v31 0 v31.heap.size y2 := Ints.more ry2 (Nat.zero_le _) (Nat.le_refl _)
  obtain ⟨u33, h36, bY, j34, s35⟩ := alloc_t v31 x2 y2
  go_upto_region 13 with (first | (refine wpList_store_nw rfl 32 (.tmp 14) (.tmp 91) rfl _ #[.bool x2.s, .slice x2.A x2.n x2.c, .int .i64 x2.e, .bool y2.s, .slice y2.A y2.n y2.c, .int .i64 y2.e] rfl rfl (by kernel_rfl) rfl (all_oneCell_toArray (cells6D_one x2 y2)) ?_; rw [h36]))
  try clear h36
  have rX := TBox.range (box_later bX (later j12 (later j22 (later jq8 (later j32 j34)))) s9)
  have rY := TBox.range bY
  go_wp2_with (first
   | (refine wpList_load_midG (by rfl) 32 (.tmp 10) rfl (v5.heap.size) 0 rfl [.bool x.s, .slice x.A x.n x.c, .int .i64 x.e, .bool y.s, .slice y.A y.n y.c, .int .i64 y.e] _ rX Tryz.underlying32 rfl (by kernel_rfl) ?_)
   | (refine wpList_load_midG (by rfl) 32 (.tmp 14) rfl (v31.heap.size) 0 rfl [.bool x2.s, .slice x2.A x2.n x2.c, .int .i64 x2.e, .bool y2.s, .slice y2.A y2.n y2.c, .int .i64 y2.e] _ rY Tryz.underlying32 rfl (by kernel_rfl) ?_))
  refine (qSame_any u33 x y x2 y2 (ints_on dX (later j8 (later j12 (later j22 (later jq8 (later j32 j34)))))) (ints_on dY (later j8 (later j12 (later j22 (later jq8 (later j32 j34)))))) (ints_on dX2 j34) (ints_on dY2 j34) true hsm.out).mono ?_
  rintro e' v37 ⟨rfl, j38⟩
  try clear hw
  clear rX rY
  go_wp2
  go_ret
  exact ⟨rfl, (later ja (later j2 (later j4 (later j6 (later j8 (later j12 (later j22 (later jq8 (later j32 (later j34 j38))))))))))⟩
 have HP : Hid (partC v e = 0) := Lib.hid (by unfold partC; rw [if_neg (by rw [HM.out]; decide), if_neg (by rw [HU.out]; decide), if_pos (by rw [HB1.out, HB2.out]; rfl)])
 have hV : Hid (partV v e = v.P) := Lib.hid (by unfold partV; rw [if_pos HP.out, if_pos (by rw [HB1.out, HB2.out]; rfl)])
 have bz_ : PBox u8 (v21.heap.size) q := bQ
 obtain ⟨U_, hU_, bU_, hb_, hf_, l5_, l5'_⟩ := part_into bz_ v.P
 have th_ := bz_.there
 replace hU_ : u8.setCells (v21.heap.size) 0 (#[.bool v.P.M.S.s, .slice v.P.M.S.A v.P.M.S.n v.P.M.S.c, .int .i64 v.P.M.S.e, .bool v.P.M.W.s, .slice v.P.M.W.A v.P.M.W.n v.P.M.W.c, .int .i64 v.P.M.W.e, .bool v.P.M.C.s, .slice v.P.M.C.A v.P.M.C.n v.P.M.C.c, .int .i64 v.P.M.C.e, .bool v.P.M.A.s, .slice v.P.M.A.A v.P.M.A.n v.P.M.A.c, .int .i64 v.P.M.A.e, .bool v.P.h, .int .i64 v.P.mn, .int .i64 v.P.mx, .slice v.P.A v.P.n v.P.c] : Array Value).toList = U_ := hU_
 have HU_ := Lib.hid hU_
 clear hU_
 have rPt := NBox.part (box_later bN (later j2 (later j4 (later j6 (later j8 (later j12 (later j22 jq8)))))) S1)
 go_upto_region 10 with (first
  | (refine wpList_load_mid rfl 30 (.tmp 77) rfl (w.heap.size) 8 rfl [.bool v.P.M.S.s, .slice v.P.M.S.A v.P.M.S.n v.P.M.S.c, .int .i64 v.P.M.S.e, .bool v.P.M.W.s, .slice v.P.M.W.A v.P.M.W.n v.P.M.W.c, .int .i64 v.P.M.W.e, .bool v.P.M.C.s, .slice v.P.M.C.A v.P.M.C.n v.P.M.C.c, .int .i64 v.P.M.C.e, .bool v.P.M.A.s, .slice v.P.M.A.A v.P.M.A.n v.P.M.A.c, .int .i64 v.P.M.A.e, .bool v.P.h, .int .i64 v.P.mn, .int .i64 v.P.mx, .slice v.P.A v.P.n v.P.c] _ rPt Tryz.underlying30 rfl (by kernel_rfl) ?_)
  | (refine wpList_store_mid rfl 30 (.tmp 12) (.tmp 78) rfl (v21.heap.size) 0 #[.bool v.P.M.S.s, .slice v.P.M.S.A v.P.M.S.n v.P.M.S.c, .int .i64 v.P.M.S.e, .bool v.P.M.W.s, .slice v.P.M.W.A v.P.M.W.n v.P.M.W.c, .int .i64 v.P.M.W.e, .bool v.P.M.C.s, .slice v.P.M.C.A v.P.M.C.n v.P.M.C.c, .int .i64 v.P.M.C.e, .bool v.P.M.A.s, .slice v.P.M.A.A v.P.M.A.n v.P.M.A.c, .int .i64 v.P.M.A.e, .bool v.P.h, .int .i64 v.P.mn, .int .i64 v.P.mx, .slice v.P.A v.P.n v.P.c] rfl rfl th_ (by kernel_rfl) (all_oneCell_toArray (cells16_one v.P)) ?_; rw [HU_.out]))
 clear rPt
 have lB : w.heap.size ≤ v21.heap.size := Below.size (later ja (later j2 (later j4 (later j6 (later j8 (later j12 j22))))))
 have jU : Below w.heap.size w U_ := hb_ _ _ (later ja (later j2 (later j4 (later j6 (later j8 (later j12 (later j22 jq8))))))) lB
 have hne : ∀ j, j < v21.heap.size → U_.heap[j]? = u8.heap[j]? := fun j hj => hf_ j (by omega)
 have bXU : TBox U_ (v5.heap.size) x y := (hf_ _ (by have := Nat.lt_of_lt_of_le s9 (Below.size (later j12 j22)); omega)).trans (box_later bX (later j12 (later j22 jq8)) s9)
 have dXU : DRow U_ 0 U_.heap.size x := (intsR (Ints.below dX (later j8 (later j12 (later j22 jq8))) (Nat.le_refl _)) (fun b h1 h2 => hf_ b (by have := Below.size (later j8 (later j12 j22)); omega))).more (Nat.zero_le _) (by have := Below.size (later j8 (later j12 (later j22 jq8))); omega)
 have dYU : DRow U_ 0 U_.heap.size y := (intsR (Ints.below dY (later j8 (later j12 (later j22 jq8))) (Nat.le_refl _)) (fun b h1 h2 => hf_ b (by have := Below.size (later j8 (later j12 j22)); omega))).more (Nat.zero_le _) (by have := Below.size (later j8 (later j12 (later j22 jq8))); omega)
 have RU : PRows U_ 0 U_.heap.size v.P := (NRows.on hR jU).P
 have sX : v5.heap.size < U_.heap.size := by have := Nat.lt_of_lt_of_le s9 (Below.size (later j12 (later j22 jq8))); omega
 have sU : v21.heap.size < U_.heap.size := by have := sq8; omega
 clear bX dX dY
 have bX := bXU
 have dX := dXU
 have dY := dYU
 have rP := PBox.range bU_
 have hA : Hid (askQ (partV v e) kind k = (lo, hi, code)) := Lib.hid (by have := HQ.out; unfold nodeQ at this; rw [if_pos HP.out] at this; exact this)
 go_wp2_with (first
  | (refine wpList_load_mid rfl 30 (.tmp 12) rfl (v21.heap.size) 0 rfl [.bool v.P.M.S.s, .slice v.P.M.S.A v.P.M.S.n v.P.M.S.c, .int .i64 v.P.M.S.e, .bool v.P.M.W.s, .slice v.P.M.W.A v.P.M.W.n v.P.M.W.c, .int .i64 v.P.M.W.e, .bool v.P.M.C.s, .slice v.P.M.C.A v.P.M.C.n v.P.M.C.c, .int .i64 v.P.M.C.e, .bool v.P.M.A.s, .slice v.P.M.A.A v.P.M.A.n v.P.M.A.c, .int .i64 v.P.M.A.e, .bool v.P.h, .int .i64 v.P.mn, .int .i64 v.P.mx, .slice v.P.A v.P.n v.P.c] _ rP Tryz.underlying30 rfl (by kernel_rfl) ?_))
 refine (Ask_any U_ v.P RU (tab_later hT jU) kind k lo hi code (Eq.trans (by rw [hV.out]) hA.out)).mono ?_
 rintro e' v39 ⟨x2, y2, B2, rfl, ix2, iy2, j40, m1, m2, rx2, ry2⟩
 try clear hw
 clear rP
 have hsm := Lib.hid (sameT_is ix.out iy.out ix2 iy2)
 clear ix2 iy2
 have dX2 : DRow v39 0 v39.heap.size x2 := Ints.more rx2 (Nat.zero_le _) m2
 have dY2 : DRow v39 0 v39.heap.size y2 := Ints.more ry2 (Nat.zero_le _) (Nat.le_refl _)
 obtain ⟨u41, h44, bY, j42, s43⟩ := alloc_t v39 x2 y2
 go_upto_region 13 with (first | (refine wpList_store_nw rfl 32 (.tmp 14) (.tmp 91) rfl _ #[.bool x2.s, .slice x2.A x2.n x2.c, .int .i64 x2.e, .bool y2.s, .slice y2.A y2.n y2.c, .int .i64 y2.e] rfl rfl (by kernel_rfl) rfl (all_oneCell_toArray (cells6D_one x2 y2)) ?_; rw [h44]))
 try clear h44
 have rX := TBox.range (box_later bX (later j40 j42) sX)
 have rY := TBox.range bY
 go_wp2_with (first
  | (refine wpList_load_midG (by rfl) 32 (.tmp 10) rfl (v5.heap.size) 0 rfl [.bool x.s, .slice x.A x.n x.c, .int .i64 x.e, .bool y.s, .slice y.A y.n y.c, .int .i64 y.e] _ rX Tryz.underlying32 rfl (by kernel_rfl) ?_)
  | (refine wpList_load_midG (by rfl) 32 (.tmp 14) rfl (v39.heap.size) 0 rfl [.bool x2.s, .slice x2.A x2.n x2.c, .int .i64 x2.e, .bool y2.s, .slice y2.A y2.n y2.c, .int .i64 y2.e] _ rY Tryz.underlying32 rfl (by kernel_rfl) ?_))
 refine (qSame_any u41 x y x2 y2 (ints_on dX (later j40 j42)) (ints_on dY (later j40 j42)) (ints_on dX2 j42) (ints_on dY2 j42) true hsm.out).mono ?_
 rintro e' v45 ⟨rfl, j46⟩
 try clear hw
 clear rX rY
 go_wp2
 go_ret
 exact ⟨rfl, (later jU (later j40 (later j42 j46)))⟩
end No
end Go.Proofs.YtmbppgjhdcmckaaGreatDoor
namespace Go.Proofs.YtmbppgjhdcmckaaGreatDoor
open Go.ChangeShapes Go.WideShapes Go.ChangeAt Go.RowKit Go.Joins Go.Deep
namespace Dy
end Dy
section
variable {H : Type} {enc : TypeId × Value → H} {W : World}
set_option maxRecDepth 100000 in
theorem mass_trodP {fuel : Nat} {cs : List Value} {x : DataW H × List MemPlace}
  (h : DataW.trod enc Tryz.prog W 0 (fun _ => true) true fuel 26 cs = some x) (hfz : ∀ b off, MemPlace.cell b off ∈ x.2 → W.frozen? ⟨b, off, none⟩ = false) (hlt : ∀ q ∈ x.2, q.block < W.heap.size) :
  ∃ m : Ma.Mv, cs = [.bool m.S.s, .slice m.S.A m.S.n m.S.c, .int .i64 m.S.e, .bool m.W.s, .slice m.W.A m.W.n m.W.c, .int .i64 m.W.e, .bool m.C.s, .slice m.C.A m.C.n m.C.c, .int .i64 m.C.e, .bool m.A.s, .slice m.A.A m.A.n m.A.c, .int .i64 m.A.e] ∧
   Ma.MRows W 0 W.heap.size m ∧ ∀ x, x < 4 → (m.get x).n ≤ (m.get x).c := by
 obtain ⟨y0, y1, y2, y3, n, hx, hl, h0, h1, h2, h3⟩ := trod_struct4 Tryz.underlying26 h
 match cs, hl.trans (show Tryz.prog.cellsOf 26 = 12 by kernel_rfl) with
 | [c0, c1, c2, c3, c4, c5, c6, c7, c8, c9, c10, c11], _ =>
  have hx2 : x.2 = y0.2 ++ (y1.2 ++ (y2.2 ++ y3.2)) := by rw [hx]
  have hC3 : Tryz.prog.cellsOf 24 = 3 := by kernel_rfl
  simp only [hC3, List.drop_zero, List.take_succ_cons, List.take_zero, List.drop_succ_cons] at h0 h1 h2 h3
  obtain ⟨d0, rfl, rfl, rfl, e0, r0⟩ := dv_trod Tryz.underlying24 (by kernel_rfl) Tryz.underlying4 Tryz.underlying22 Tryz.underlying48 (by kernel_rfl) Tryz.underlying3 h0 (fun b off hm => hfz b off (by simp [hx2, hm])) (fun q hq => hlt q (by simp [hx2, hq]))
  obtain ⟨d1, rfl, rfl, rfl, e1, r1⟩ := dv_trod Tryz.underlying24 (by kernel_rfl) Tryz.underlying4 Tryz.underlying22 Tryz.underlying48 (by kernel_rfl) Tryz.underlying3 h1 (fun b off hm => hfz b off (by simp [hx2, hm])) (fun q hq => hlt q (by simp [hx2, hq]))
  obtain ⟨d2, rfl, rfl, rfl, e2, r2⟩ := dv_trod Tryz.underlying24 (by kernel_rfl) Tryz.underlying4 Tryz.underlying22 Tryz.underlying48 (by kernel_rfl) Tryz.underlying3 h2 (fun b off hm => hfz b off (by simp [hx2, hm])) (fun q hq => hlt q (by simp [hx2, hq]))
  obtain ⟨d3, rfl, rfl, rfl, e3, r3⟩ := dv_trod Tryz.underlying24 (by kernel_rfl) Tryz.underlying4 Tryz.underlying22 Tryz.underlying48 (by kernel_rfl) Tryz.underlying3 h3 (fun b off hm => hfz b off (by simp [hx2, hm])) (fun q hq => hlt q (by simp [hx2, hq]))
  exact ⟨⟨d0, d1, d2, d3⟩, rfl, ⟨r0, r1, r2, r3⟩, Ma.four (p := fun x => (Ma.Mv.get ⟨d0, d1, d2, d3⟩ x).n ≤ (Ma.Mv.get ⟨d0, d1, d2, d3⟩ x).c) e0 e1 e2 e3⟩
set_option maxRecDepth 100000 in
theorem edge_trod {fuel : Nat} {c0 c1 c2 : Value} {x : DataW H × List MemPlace}
  (h : DataW.trod enc Tryz.prog W 0 (fun _ => true) true fuel 28 [c0, c1, c2] = some x) : ∃ (b : Bool) (p q : Int), c0 = .bool b ∧ c1 = .int .i64 p ∧ c2 = .int .i64 q := by
 obtain ⟨y0, y1, y2, n, hx, _, h0, h1, h2⟩ := trod_struct3 Tryz.underlying28 h
 have C1 : Tryz.prog.cellsOf 4 = 1 := by kernel_rfl
 have C2 : Tryz.prog.cellsOf 3 = 1 := by kernel_rfl
 simp only [C1, C2, List.drop_zero, List.take_succ_cons, List.take_zero, List.drop_succ_cons] at h0 h1 h2
 obtain ⟨s, e0, _⟩ := DataW.trod_bool Tryz.underlying4 h0
 obtain ⟨z, e1, _, z1⟩ := DataW.trod_int Tryz.underlying3 h1
 obtain ⟨u, e2, _, z2⟩ := DataW.trod_int Tryz.underlying3 h2
 injection e0 with e0
 injection e1 with e1
 injection e2 with e2
 exact ⟨s, z, u, e0, e1, e2⟩
set_option maxRecDepth 100000 in
theorem part_trod {fuel : Nat} {cs : List Value} {x : DataW H × List MemPlace}
  (h : DataW.trod enc Tryz.prog W 0 (fun _ => true) true fuel 30 cs = some x) (hfz : ∀ b off, MemPlace.cell b off ∈ x.2 → W.frozen? ⟨b, off, none⟩ = false) (hlt : ∀ q ∈ x.2, q.block < W.heap.size) :
  ∃ p : Ma.Pv, cs = [.bool p.M.S.s, .slice p.M.S.A p.M.S.n p.M.S.c, .int .i64 p.M.S.e, .bool p.M.W.s, .slice p.M.W.A p.M.W.n p.M.W.c, .int .i64 p.M.W.e, .bool p.M.C.s, .slice p.M.C.A p.M.C.n p.M.C.c, .int .i64 p.M.C.e, .bool p.M.A.s, .slice p.M.A.A p.M.A.n p.M.A.c, .int .i64 p.M.A.e, .bool p.h, .int .i64 p.mn, .int .i64 p.mx, .slice p.A p.n p.c] ∧ Ma.PRows W 0 W.heap.size p ∧ ∀ x, x < 4 → (p.M.get x).n ≤ (p.M.get x).c := by
 obtain ⟨y0, y1, y2, n, hx, hl, h0, h1, h2⟩ := trod_struct3 Tryz.underlying30 h
 match cs, hl.trans (show Tryz.prog.cellsOf 30 = 16 by kernel_rfl) with
 | [c0, c1, c2, c3, c4, c5, c6, c7, c8, c9, c10, c11, c12, c13, c14, c15], _ =>
  have hx2 : x.2 = y0.2 ++ (y1.2 ++ y2.2) := by rw [hx]
  have C1 : Tryz.prog.cellsOf 26 = 12 := by kernel_rfl
  have C2 : Tryz.prog.cellsOf 28 = 3 := by kernel_rfl
  have C3 : Tryz.prog.cellsOf 22 = 1 := by kernel_rfl
  simp only [C1, C2, C3, List.drop_zero, List.take_succ_cons, List.take_zero, List.drop_succ_cons] at h0 h1 h2
  obtain ⟨m, em, rm, cm⟩ := mass_trodP h0 (fun b off hm => hfz b off (by simp [hx2, hm])) (fun q hq => hlt q (by simp [hx2, hq]))
  obtain ⟨b, z, u, rfl, rfl, rfl⟩ := edge_trod h1
  obtain ⟨A, n', c, xs, rfl, _, hI⟩ := ints_trod Tryz.underlying22 Tryz.underlying48 (by kernel_rfl) h2 (fun b off hm => hfz b off (by simp [hx2, hm])) (fun q hq => hlt q (by simp [hx2, hq]))
  simp only [List.cons.injEq, and_true] at em
  obtain ⟨rfl, rfl, rfl, rfl, rfl, rfl, rfl, rfl, rfl, rfl, rfl, rfl⟩ := em
  exact ⟨⟨m, b, z, u, A, n', c, xs⟩, rfl, ⟨rm, hI⟩, cm⟩
end
end Go.Proofs.YtmbppgjhdcmckaaGreatDoor