/- The reference's Minus and Add: walks (printed by a program of mine). -/
/- A region that draws its order, in the round of a range over a function, under the wide fence: the plain walk's orders serve. No program in sight. -/
/- mass.Same: a walk (printed by a program of mine). -/
/- mass.Twin: a walk (printed by a program of mine). -/
/- The reference's Add, Sub and Half of whatever dyads: walks (printed by a program of mine). -/
import Derived.Deep.DeepCutAuto
import Derived.Deep.CutRange
import Derived.Test.YtlbkepiflhchdaaDoorBa08
import Derived.Test.YtlbkepiflhchdaaDoorBa01
import Derived.RangeFuncNested
import Derived.RangeFuncBound
import Derived.RangeFuncBox
import Derived.RangeFuncCalls
import Derived.RangeFuncLeaves
import Derived.Shelf.Abstract
import Derived.Shelf.RegionOpen
import Derived.OwnWalkIn
import Derived.TacticsInMore
import Derived.LoopNIn
import Derived.LoopIn
import Derived.RegionIn
import Derived.Deep.RegionHeld3
import Derived.Test.YtlbkepiflhchdaaDoorBa06
namespace Go.Proofs.YtlbkepiflhchdaaDoor
open Go.RowKit
namespace Dy
open Dp
theorem boxes2 (w : World) (o1 o2 : Obj) {w1 : World} (hw : (w.alloc o1).alloc o2 = w1) : w1.heap[w.heap.size]? = some o1 ∧ w1.heap[w.heap.size + 1]? = some o2 ∧ Below w.heap.size w w1 ∧ w.heap.size + 2 ≤ w1.heap.size ∧ w1.heap.size ≤ w.heap.size + 2 := by
  subst hw
  exact ⟨by rw [Below.heap_alloc _ _ _ (by simp)]; exact heap_alloc_last _ _, heap_alloc2_new _ _ _, ((Below.refl _ w).alloc (Nat.le_refl _) _).alloc (by simp) _, by simp, by simp⟩
theorem boxes3 (w : World) (o1 o2 o3 : Obj) {w1 : World} (hw : ((w.alloc o1).alloc o2).alloc o3 = w1) : w1.heap[w.heap.size]? = some o1 ∧ w1.heap[w.heap.size + 1]? = some o2 ∧ w1.heap[w.heap.size + 1 + 1]? = some o3 ∧ Below w.heap.size w w1 ∧ w.heap.size + 3 ≤ w1.heap.size ∧ w1.heap.size ≤ w.heap.size + 3 := by
  obtain ⟨h1, h2, h3, h4, h5⟩ := boxes2 w o1 o2 rfl
  subst hw
  refine ⟨(Below.heap_alloc _ _ _ (by omega)).trans h1, (Below.heap_alloc _ _ _ (by omega)).trans h2, ?_, h3.alloc (by omega) _, by simp, by simp⟩
  have e : w.heap.size + 1 + 1 = ((w.alloc o1).alloc o2).heap.size := by omega
  rw [e]
  exact heap_alloc_last _ _
set_option maxHeartbeats 800000 in
set_option maxRecDepth 100000 in
/-- headcountref02.Minus. -/
theorem rMinus_any (w : World) (s : Bool) (A : Option Addr) (n c : Nat) (ex : Int) (t : Bool) (ht : (if n = 0 then s else !s) = t) :
    Calls Tryd.prog 71 #[.agg #[.bool s, .slice A n c, .int .i64 ex]] w fun e w' => e = .returned (.agg #[.bool t, .slice A n c, .int .i64 ex]) ∧ Below w.heap.size w w' := by
  generalize hw : (w.alloc (.cells #[.bool s, .slice A n c, .int .i64 ex] 24)).alloc (.cells #[.bool false, .slice none 0 0, .int .i64 0] 24) = w1 at *
  obtain ⟨X1, X2, b1, l1, l2⟩ := boxes2 w _ _ hw
  obtain ⟨⟨y1, y2, y3⟩, y4, y5, y6⟩ := boxD X1
  obtain ⟨⟨z1, z2, z3⟩, z4, z5, z6⟩ := boxD X2
  by_cases h0 : n = 0
  · subst h0
    rw [if_pos rfl] at ht
    subst ht
    go_enter Tryd.func71, Tryd.ntmps71
    go_wp2
    exact bodyPost_ret (v := .agg #[.bool s, .slice A 0 c, .int .i64 ex]) (by simp [results, Tryd.results71, go_sem, z1, z2, z3]) rfl ⟨rfl, below_put b1 (by omega) _ _ _⟩
  · rw [if_neg h0] at ht
    subst ht
    have hn : 0 < n := by omega
    go_enter Tryd.func71, Tryd.ntmps71
    go_wp2
    exact bodyPost_ret (v := .agg #[.bool !s, .slice A n c, .int .i64 ex]) (by simp [results, Tryd.results71, go_sem, z1, z2, z3]) rfl ⟨rfl, below_put (b1.setCell (Nat.le_refl _) _) (by omega) _ _ _⟩
theorem shift_len {a : Dn} (ha : a.May) {K : Nat} (hK : K ≤ 1024) {L : Nat} (hL : L = 2400) : a.m * 2 ^ (K - a.e) < 2 ^ L := by
  have h1 := ha.1
  have h3 : a.m * 2 ^ (K - a.e) < capD * 2 ^ (K - a.e) := Nat.mul_lt_mul_of_pos_right h1 (Nat.pow_pos (by decide))
  refine Nat.lt_of_lt_of_le h3 ?_
  rw [capD_eq, ← Nat.pow_add]
  exact Nat.pow_le_pow_right (by decide) (by rw [capE_eq]; omega)
theorem plus_len {s t s' : Bool} {x y v : Nat} (h : plusS s x t y = (s', v)) : v ≤ x + y := by
  rcases plus_cases s t x y s' v h with ⟨_, _, h⟩ | ⟨_, _, _, _, h⟩ | ⟨_, _, _, _, h⟩ | ⟨_, _, _, _, h⟩ <;> omega
set_option maxHeartbeats 12800000 in
set_option maxRecDepth 100000 in
/-- headcountref02.Add, of two that may be. -/
theorem rAdd_dn (w : World) (a b : Dn) (ha : a.May) (hb : b.May) (A1 A2 : Option Addr) (n1 c1 n2 c2 : Nat) (h1 : Ints w 0 w.heap.size .u32 A1 n1 (canon 4294967296 a.m)) (h2 : Ints w 0 w.heap.size .u32 A2 n2 (canon 4294967296 b.m)) (r : Dn) (code : Int) (h : addD a b = (r, code)) :
    Calls Tryd.prog 21 #[.agg #[.bool a.neg, .slice A1 n1 c1, .int .i64 a.e], .agg #[.bool b.neg, .slice A2 n2 c2, .int .i64 b.e]] w (Formed w r code) := by
  have hn1 := ints_may h1 ha
  have hn2 := ints_may h2 hb
  have ea : a.e ≤ 1024 := ha.2.1
  have eb : b.e ≤ 1024 := hb.2.1
  have ma := Lib.hid (dn_may ha)
  have mb := Lib.hid (dn_may hb)
  have H := Lib.hid h
  clear h
  obtain ⟨KX, hK⟩ : ∃ KX, max a.e b.e = KX := ⟨_, rfl⟩
  have kl : KX ≤ 1024 := by omega
  have ka : a.e ≤ KX := by omega
  have kb : b.e ≤ KX := by omega
  obtain ⟨x, hx⟩ : ∃ x, 2 ^ (KX - a.e) * a.m = x := ⟨_, rfl⟩
  obtain ⟨y, hy⟩ : ∃ y, 2 ^ (KX - b.e) * b.m = y := ⟨_, rfl⟩
  obtain ⟨s, v, hp⟩ : ∃ s v, plusS a.neg x b.neg y = (s, v) := ⟨_, _, rfl⟩
  have hf : formed s v KX = (r, code) := by
    have := H.out
    unfold addD at this
    rw [hK, Nat.mul_comm a.m, Nat.mul_comm b.m, hx, hy, hp] at this
    exact this
  obtain ⟨L, hL⟩ : ∃ L, L = 2400 := ⟨_, rfl⟩
  have hxl : x < 2 ^ L := by rw [← hx, Nat.mul_comm]; exact shift_len ha kl hL
  have hyl : y < 2 ^ L := by rw [← hy, Nat.mul_comm]; exact shift_len hb kl hL
  have hvl : (canon 2 v).length ≤ 2401 := by
    have h5 : v < 2 ^ (L + 1) := by
      have := plus_len hp
      rw [Nat.pow_succ]
      omega
    have := canon_len (by decide) h5
    omega
  have HX := Lib.hid hx
  have HY := Lib.hid hy
  have HP := Lib.hid hp
  have HF := Lib.hid hf
  have HVL := Lib.hid hvl
  clear hx hy hp hf hxl hyl hvl hL H ha hb
  generalize hw : ((w.alloc (.cells #[.bool a.neg, .slice A1 n1 c1, .int .i64 a.e] 24)).alloc (.cells #[.bool b.neg, .slice A2 n2 c2, .int .i64 b.e] 24)).alloc (.cells #[.bool false, .slice none 0 0, .int .i64 0] 24) = w1 at *
  obtain ⟨D1, D2, D3, b1, l1, l2⟩ := boxes3 w _ _ _ hw
  replace h1 := h1.below b1 (Nat.le_refl _)
  replace h2 := h2.below b1 (Nat.le_refl _)
  obtain ⟨⟨pD1, qD1, rD1⟩, uD1, vD1, xD1⟩ := boxD D1
  go_enter Tryd.func21, Tryd.ntmps21
  go_wp2_with fail
  try clear hw
  refine (rMay_ok w1 0 w.heap.size a.neg A1 n1 c1 _ a.e h1 (by omega) ma.out).mono ?_
  rintro e' w2 ⟨rfl, hB⟩
  clear pD1 qD1 rD1 uD1 vD1 xD1
  have lw2 : w1.heap.size ≤ w2.heap.size := hB.size
  replace h1 := h1.below hB (by omega)
  replace h2 := h2.below hB (by omega)
  replace D1 := (hB.block _ (by omega)).trans D1
  replace D2 := (hB.block _ (by omega)).trans D2
  replace D3 := (hB.block _ (by omega)).trans D3
  have c3 := b1.trans (hB.mono (by omega))
  clear hB
  obtain ⟨⟨pD2, qD2, rD2⟩, uD2, vD2, xD2⟩ := boxD D2
  go_wp2_with fail
  refine (rMay_ok w2 0 w.heap.size b.neg A2 n2 c2 _ b.e h2 (by omega) mb.out).mono ?_
  rintro e' w4 ⟨rfl, hB⟩
  clear pD2 qD2 rD2 uD2 vD2 xD2
  have lw4 : w2.heap.size ≤ w4.heap.size := hB.size
  replace h1 := h1.below hB (by omega)
  replace h2 := h2.below hB (by omega)
  replace D1 := (hB.block _ (by omega)).trans D1
  replace D2 := (hB.block _ (by omega)).trans D2
  replace D3 := (hB.block _ (by omega)).trans D3
  have c5 := c3.trans (hB.mono (by omega))
  clear hB
  obtain ⟨⟨pD1, qD1, rD1⟩, uD1, vD1, xD1⟩ := boxD D1
  obtain ⟨⟨pD2, qD2, rD2⟩, uD2, vD2, xD2⟩ := boxD D2
  have hkk := Lib.hid hK
  clear hK
  go_upto_region 3 with fail
  go_cut [6] from 16 to 23 (fun s6 wx => s6 = .int .i64 (KX : Int) ∧ w4 = wx)
  case first =>
    go_wp2_with fail
    all_goals
      go_meet
      exact ⟨by have := hkk.out; congr 1; omega, rfl⟩
  case rest =>
    obtain ⟨rfl, rfl⟩ := hcut
    clear pD1 qD1 rD1 uD1 vD1 xD1 pD2 qD2 rD2 uD2 vD2 xD2
    go_wp2_with fail
    have kD : Keeps w4 w4.drew := fun _ _ => rfl
    have hB : Below w4.heap.size w4 w4.drew := (Below.refl _ _).drew
    refine region_E (Keeps w4) [13] (m := 15) (L := #[false, false, false, false, false, false, false, false, false, false, false, false, false, false, false]) (by kernel_rfl) (by rfl) (by rfl) ?_
    generalize w4.drew = w6 at *
    have lw6 : w4.heap.size ≤ w6.heap.size := hB.size
    have sv_D1 := D1
    have sv_D2 := D2
    have sv_D3 := D3
    replace h1 := h1.below hB (by omega)
    replace h2 := h2.below hB (by omega)
    replace D1 := (hB.block _ (by omega)).trans D1
    replace D2 := (hB.block _ (by omega)).trans D2
    replace D3 := (hB.block _ (by omega)).trans D3
    have hB0 := hB
    clear hB
    refine pureE (i := 1) (L := #[false, true, false, false, false, false, false, false, false, false, false, false, false, false, false]) (v := ?_) rfl (by rfl) (by kernel_rfl) (by kernel_rfl) (by kernel_rfl) (fun _ _ _ h => h) (by rfl) ?hy1 ?rest1
    case hy1 => intro w; go_simp; (try with_reducible rfl)
    try simp only [Act.put, List.setIfInBounds_toArray, List.set_cons_zero, List.set_cons_succ]
    refine pureE (i := 4) (L := #[false, true, false, false, true, false, false, false, false, false, false, false, false, false, false]) (v := ?_) rfl (by rfl) (by kernel_rfl) (by kernel_rfl) (by kernel_rfl) (fun _ _ _ h => h) (by rfl) ?hy2 ?rest2
    case hy2 => intro w; go_simp; (try with_reducible rfl)
    try simp only [Act.put, List.setIfInBounds_toArray, List.set_cons_zero, List.set_cons_succ]
    refine pureE (i := 7) (L := #[false, true, false, false, true, false, false, true, false, false, false, false, false, false, false]) (v := ?_) rfl (by rfl) (by kernel_rfl) (by kernel_rfl) (by kernel_rfl) (fun _ _ _ h => h) (by rfl) ?hy3 ?rest3
    case hy3 => intro w; go_simp; (try with_reducible rfl)
    try simp only [Act.put, List.setIfInBounds_toArray, List.set_cons_zero, List.set_cons_succ]
    refine readE (i := 0) (L := #[true, true, false, false, true, false, false, true, false, false, false, false, false, false, false]) (v := .agg #[.bool a.neg, .slice A1 n1 c1, .int .i64 a.e]) rfl (by rfl) (by kernel_rfl) (by kernel_rfl) (by kernel_rfl) (fun _ _ _ h => h) (by assumption) (by rfl) ?hy0_1 ?rest0_1
    case hy0_1 =>
      intro w' h1
      obtain ⟨⟨k1, k2, k3⟩, _⟩ := boxD ((h1 _ (by omega)).trans sv_D1)
      go_simp
    try simp only [Act.put, List.setIfInBounds_toArray, List.set_cons_zero, List.set_cons_succ]
    refine readE (i := 3) (L := #[true, true, false, true, true, false, false, true, false, false, false, false, false, false, false]) (v := .agg #[.bool b.neg, .slice A2 n2 c2, .int .i64 b.e]) rfl (by rfl) (by kernel_rfl) (by kernel_rfl) (by kernel_rfl) (fun _ _ _ h => h) (by assumption) (by rfl) ?hy3_2 ?rest3_2
    case hy3_2 =>
      intro w' h1
      obtain ⟨⟨k1, k2, k3⟩, _⟩ := boxD ((h1 _ (by omega)).trans sv_D2)
      go_simp
    try simp only [Act.put, List.setIfInBounds_toArray, List.set_cons_zero, List.set_cons_succ]
    refine stepK2 (i := 2) (j := 12) (Li := #[true, true, true, true, true, false, false, true, false, false, false, false, false, false, false]) (Lj := #[true, true, false, true, true, false, false, true, false, false, false, false, true, false, false]) rfl rfl (by rfl) (by rfl) (by kernel_rfl) (by rfl) (by rfl) (fun K hK => ?o2_3) (fun K hK => ?o12_3)
    case o2_3 =>
      
      go_simp
      go_at_call 69
      refine (In_any w6 a.neg a.m a.e A1 n1 c1 (h1.more (Nat.zero_le _) (by omega)) hn1 KX ka (by omega) x HX.out KX rfl).mono ?_
      rintro e' w7 ⟨P1, i1, d1, rfl, lc1, ln1, hB, IN1⟩
      have lw7 : w6.heap.size ≤ w7.heap.size := hB.size
      replace h1 := h1.below hB (by omega)
      replace h2 := h2.below hB (by omega)
      replace D1 := (hB.block _ (by omega)).trans D1
      replace D2 := (hB.block _ (by omega)).trans D2
      replace D3 := (hB.block _ (by omega)).trans D3
      have c8 := hB0.trans (hB.mono (by omega))
      clear hB
      refine hK _ _ ⟨fun _ _ p hp => c8.block p hp, ?_⟩
      clear hK K
      try simp only [Act.put, List.setIfInBounds_toArray, List.set_cons_zero, List.set_cons_succ]
      refine stepK2 (i := 5) (j := 12) (Li := #[true, true, true, true, true, true, false, true, false, false, false, false, false, false, false]) (Lj := #[true, true, true, true, true, false, false, true, false, false, false, false, true, false, false]) rfl rfl (by rfl) (by rfl) (by kernel_rfl) (by rfl) (by rfl) (fun K hK => ?o5_4) (fun K hK => ?o12_4)
      case o5_4 =>
        
        go_simp
        go_at_call 69
        refine (In_any w7 b.neg b.m b.e A2 n2 c2 (h2.more (Nat.zero_le _) (by omega)) hn2 KX kb (by omega) y HY.out KX rfl).mono ?_
        rintro e' w9 ⟨P2, i2, d2, rfl, lc2, ln2, hB, IN2⟩
        have lw9 : w7.heap.size ≤ w9.heap.size := hB.size
        replace h1 := h1.below hB (by omega)
        replace h2 := h2.below hB (by omega)
        replace IN1 := IN1.below hB (by omega)
        replace D1 := (hB.block _ (by omega)).trans D1
        replace D2 := (hB.block _ (by omega)).trans D2
        replace D3 := (hB.block _ (by omega)).trans D3
        have c10 := c8.trans (hB.mono (by omega))
        clear hB
        refine hK _ _ ⟨fun _ _ p hp => c10.block p hp, ?_⟩
        clear hK K
        try simp only [Act.put, List.setIfInBounds_toArray, List.set_cons_zero, List.set_cons_succ]
        refine stepK2 (i := 6) (j := 12) (Li := #[true, true, true, true, true, true, true, true, false, false, false, false, false, false, false]) (Lj := #[true, true, true, true, true, true, false, true, false, false, false, false, true, false, false]) rfl rfl (by rfl) (by rfl) (by kernel_rfl) (by rfl) (by rfl) (fun K hK => ?o6_5) (fun K hK => ?o12_5)
        case o6_5 =>
          
          go_simp
          go_at_call 68
          refine (rPlus_any w9 a.neg b.neg x y P1 i1 d1 P2 i2 d2 (IN1.more (Nat.zero_le _) (by omega)) (IN2.more (Nat.zero_le _) (by omega)) ln1 ln2 s v HP.out).mono ?_
          rintro e' w11 ⟨P3, i3, d3, rfl, lc3, hB, IN3⟩
          have lw11 : w9.heap.size ≤ w11.heap.size := hB.size
          replace h1 := h1.below hB (by omega)
          replace h2 := h2.below hB (by omega)
          replace IN1 := IN1.below hB (by omega)
          replace IN2 := IN2.below hB (by omega)
          replace D1 := (hB.block _ (by omega)).trans D1
          replace D2 := (hB.block _ (by omega)).trans D2
          replace D3 := (hB.block _ (by omega)).trans D3
          have c12 := c10.trans (hB.mono (by omega))
          clear hB
          have hi3 : i3 ≤ 2401 := by have := IN3.len; have := HVL.out; omega
          refine hK _ _ ⟨fun _ _ p hp => c12.block p hp, ?_⟩
          clear hK K
          try simp only [Act.put, List.setIfInBounds_toArray, List.set_cons_zero, List.set_cons_succ]
          refine stepK2 (i := 8) (j := 12) (Li := #[true, true, true, true, true, true, true, true, true, false, false, false, false, false, false]) (Lj := #[true, true, true, true, true, true, true, true, false, false, false, false, true, false, false]) rfl rfl (by rfl) (by rfl) (by kernel_rfl) (by rfl) (by rfl) (fun K hK => ?o8_6) (fun K hK => ?o12_6)
          case o8_6 =>
            
            go_simp
            go_at_call 67
            refine (rFormed_any w11 s P3 i3 d3 _ (IN3.more (Nat.zero_le _) (by omega)) dig2 lc3 (by omega) KX (by omega) KX rfl v num2 r code HF.out).mono ?_
            rintro e' w13 ⟨P4, i4, d4, rfl, lc4, hB, IN4⟩
            have lw13 : w11.heap.size ≤ w13.heap.size := hB.size
            replace h1 := h1.below hB (by omega)
            replace h2 := h2.below hB (by omega)
            replace IN1 := IN1.below hB (by omega)
            replace IN2 := IN2.below hB (by omega)
            replace IN3 := IN3.below hB (by omega)
            replace D1 := (hB.block _ (by omega)).trans D1
            replace D2 := (hB.block _ (by omega)).trans D2
            replace D3 := (hB.block _ (by omega)).trans D3
            have c14 := c12.trans (hB.mono (by omega))
            clear hB
            refine hK _ _ ⟨fun _ _ p hp => c14.block p hp, ?_⟩
            clear hK K
            try simp only [Act.put, List.setIfInBounds_toArray, List.set_cons_zero, List.set_cons_succ]
            refine pureE (i := 9) (L := #[true, true, true, true, true, true, true, true, true, true, false, false, false, false, false]) (v := ?_) rfl (by rfl) (by kernel_rfl) (by kernel_rfl) (by kernel_rfl) (fun _ _ _ h => h) (by rfl) ?hy6 ?rest6
            case hy6 => intro w; go_simp; (try with_reducible rfl)
            try simp only [Act.put, List.setIfInBounds_toArray, List.set_cons_zero, List.set_cons_succ]
            refine pureE (i := 10) (L := #[true, true, true, true, true, true, true, true, true, true, true, false, false, false, false]) (v := ?_) rfl (by rfl) (by kernel_rfl) (by kernel_rfl) (by kernel_rfl) (fun _ _ _ h => h) (by rfl) ?hy7 ?rest7
            case hy7 => intro w; go_simp; (try with_reducible rfl)
            try simp only [Act.put, List.setIfInBounds_toArray, List.set_cons_zero, List.set_cons_succ]
            refine pureE (i := 11) (L := #[true, true, true, true, true, true, true, true, true, true, true, true, false, false, false]) (v := ?_) rfl (by rfl) (by kernel_rfl) (by kernel_rfl) (by kernel_rfl) (fun _ _ _ h => h) (by rfl) ?hy8 ?rest8
            case hy8 => intro w; go_simp; (try with_reducible rfl)
            try simp only [Act.put, List.setIfInBounds_toArray, List.set_cons_zero, List.set_cons_succ]
            refine stepK (i := 12) (L := #[true, true, true, true, true, true, true, true, true, true, true, true, true, false, false]) rfl (by rfl) (by kernel_rfl) (by rfl) (fun K hK => ?_)
            go_simp
            have hB := (Below.refl w13.heap.size w13).alloc (Nat.le_refl _) (.cells #[.bool false, .slice none 0 0, .int .i64 0] 24)
            have D4 := heap_alloc_last w13 (.cells #[.bool false, .slice none 0 0, .int .i64 0] 24)
            have mw15 : w13.heap.size < (w13.alloc (.cells #[.bool false, .slice none 0 0, .int .i64 0] 24)).heap.size := by simp
            generalize hw : w13.alloc (.cells #[.bool false, .slice none 0 0, .int .i64 0] 24) = w15 at *
            have lw15 : w13.heap.size ≤ w15.heap.size := hB.size
            replace h1 := h1.below hB (by omega)
            replace h2 := h2.below hB (by omega)
            replace IN1 := IN1.below hB (by omega)
            replace IN2 := IN2.below hB (by omega)
            replace IN3 := IN3.below hB (by omega)
            replace IN4 := IN4.below hB (by omega)
            replace D1 := (hB.block _ (by omega)).trans D1
            replace D2 := (hB.block _ (by omega)).trans D2
            replace D3 := (hB.block _ (by omega)).trans D3
            have c16 := c14.trans (hB.mono (by omega))
            clear hB
            try clear hw
            refine hK _ _ ⟨fun _ _ p hp => c16.block p hp, ?_⟩
            clear hK K
            try simp only [Act.put, List.setIfInBounds_toArray, List.set_cons_zero, List.set_cons_succ]
            refine stepK (i := 13) (L := #[true, true, true, true, true, true, true, true, true, true, true, true, true, true, false]) rfl (by rfl) (by kernel_rfl) (by rfl) (fun K hK => ?_)
            go_simp
            obtain ⟨⟨p1, p2, p3⟩, p4, p5, p6⟩ := boxD D4
            go_simp
            refine hK _ _ ⟨fun h => absurd h (by decide), ?_⟩
            clear hK K
            try simp only [Act.put, List.setIfInBounds_toArray, List.set_cons_zero, List.set_cons_succ]
            refine pureE (i := 14) (L := #[true, true, true, true, true, true, true, true, true, true, true, true, true, true, true]) (v := ?_) rfl (by rfl) (by kernel_rfl) (by kernel_rfl) (by kernel_rfl) (fun _ _ _ h => h) (by rfl) ?hy11 ?rest11
            case hy11 => intro w; go_simp; (try with_reducible rfl)
            try simp only [Act.put, List.setIfInBounds_toArray, List.set_cons_zero, List.set_cons_succ]
            refine doneE (by kernel_rfl) ?_ _
            clear p1 p2 p3 p4 p5 p6
            have q4 := box_put D4 (.bool r.neg) (.slice P4 i4 d4) (.int .i64 r.e)
            have d7 := below_put c16 (by omega : w4.heap.size ≤ w13.heap.size) (.bool r.neg) (.slice P4 i4 d4) (.int .i64 r.e)
            have J4 := ints_put IN4 (g := w13.heap.size) (by omega) (.bool r.neg) (.slice P4 i4 d4) (.int .i64 r.e)
            have s7 : w15.heap.size ≤ (((w15.setCell ⟨w13.heap.size, 0, none⟩ (.bool r.neg)).setCell ⟨w13.heap.size, 1, none⟩ (.slice P4 i4 d4)).setCell ⟨w13.heap.size, 2, none⟩ (.int .i64 r.e)).heap.size := by rw [size_put]; exact Nat.le_refl _
            generalize hw : ((w15.setCell ⟨w13.heap.size, 0, none⟩ (.bool r.neg)).setCell ⟨w13.heap.size, 1, none⟩ (.slice P4 i4 d4)).setCell ⟨w13.heap.size, 2, none⟩ (.int .i64 r.e) = w17 at *
            try clear hw
            have e8 := c5.trans (d7.mono (by omega))
            have X9 := (d7.block _ (by omega)).trans sv_D3
            obtain ⟨⟨p1, p2, p3⟩, p4, p5, p6⟩ := boxD q4
            obtain ⟨⟨z1, z2, z3⟩, z4, z5, z6⟩ := boxD X9
            go_wp2
            refine bodyPost_ret (v := .tuple #[.agg #[.bool r.neg, .slice P4 i4 d4, .int .i64 r.e], .int .i64 code]) (by simp [results, Tryd.results21, go_sem, z1, z2, z3]) rfl ⟨P4, i4, d4, rfl, lc4, ?_, ?_⟩
            · exact below_put e8 (by omega) _ _ _
            · exact (ints_put J4 (.inl (by omega)) _ _ _).more (by omega) (by rw [size_put]; omega)
          case o12_6 =>
            
            go_simp
            have hB := (Below.refl w11.heap.size w11).alloc (Nat.le_refl _) (.cells #[.bool false, .slice none 0 0, .int .i64 0] 24)
            have D4 := heap_alloc_last w11 (.cells #[.bool false, .slice none 0 0, .int .i64 0] 24)
            have mw18 : w11.heap.size < (w11.alloc (.cells #[.bool false, .slice none 0 0, .int .i64 0] 24)).heap.size := by simp
            generalize hw : w11.alloc (.cells #[.bool false, .slice none 0 0, .int .i64 0] 24) = w18 at *
            have lw18 : w11.heap.size ≤ w18.heap.size := hB.size
            replace h1 := h1.below hB (by omega)
            replace h2 := h2.below hB (by omega)
            replace IN1 := IN1.below hB (by omega)
            replace IN2 := IN2.below hB (by omega)
            replace IN3 := IN3.below hB (by omega)
            replace D1 := (hB.block _ (by omega)).trans D1
            replace D2 := (hB.block _ (by omega)).trans D2
            replace D3 := (hB.block _ (by omega)).trans D3
            have c19 := c12.trans (hB.mono (by omega))
            clear hB
            try clear hw
            refine hK _ _ ⟨fun _ _ p hp => c19.block p hp, ?_⟩
            clear hK K
            try simp only [Act.put, List.setIfInBounds_toArray, List.set_cons_zero, List.set_cons_succ]
            refine stepK (i := 8) (L := #[true, true, true, true, true, true, true, true, true, false, false, false, true, false, false]) rfl (by rfl) (by kernel_rfl) (by rfl) (fun K hK => ?_)
            go_simp
            go_at_call 67
            refine (rFormed_any w18 s P3 i3 d3 _ (IN3.more (Nat.zero_le _) (by omega)) dig2 lc3 (by omega) KX (by omega) KX rfl v num2 r code HF.out).mono ?_
            rintro e' w20 ⟨P4, i4, d4, rfl, lc4, hB, IN4⟩
            have lw20 : w18.heap.size ≤ w20.heap.size := hB.size
            replace h1 := h1.below hB (by omega)
            replace h2 := h2.below hB (by omega)
            replace IN1 := IN1.below hB (by omega)
            replace IN2 := IN2.below hB (by omega)
            replace IN3 := IN3.below hB (by omega)
            replace D1 := (hB.block _ (by omega)).trans D1
            replace D2 := (hB.block _ (by omega)).trans D2
            replace D3 := (hB.block _ (by omega)).trans D3
            replace D4 := (hB.block _ (by omega)).trans D4
            have c21 := c19.trans (hB.mono (by omega))
            clear hB
            refine hK _ _ ⟨fun _ _ p hp => c21.block p hp, ?_⟩
            clear hK K
            try simp only [Act.put, List.setIfInBounds_toArray, List.set_cons_zero, List.set_cons_succ]
            refine pureE (i := 9) (L := #[true, true, true, true, true, true, true, true, true, true, false, false, true, false, false]) (v := ?_) rfl (by rfl) (by kernel_rfl) (by kernel_rfl) (by kernel_rfl) (fun _ _ _ h => h) (by rfl) ?hy13 ?rest13
            case hy13 => intro w; go_simp; (try with_reducible rfl)
            try simp only [Act.put, List.setIfInBounds_toArray, List.set_cons_zero, List.set_cons_succ]
            refine pureE (i := 10) (L := #[true, true, true, true, true, true, true, true, true, true, true, false, true, false, false]) (v := ?_) rfl (by rfl) (by kernel_rfl) (by kernel_rfl) (by kernel_rfl) (fun _ _ _ h => h) (by rfl) ?hy14 ?rest14
            case hy14 => intro w; go_simp; (try with_reducible rfl)
            try simp only [Act.put, List.setIfInBounds_toArray, List.set_cons_zero, List.set_cons_succ]
            refine pureE (i := 11) (L := #[true, true, true, true, true, true, true, true, true, true, true, true, true, false, false]) (v := ?_) rfl (by rfl) (by kernel_rfl) (by kernel_rfl) (by kernel_rfl) (fun _ _ _ h => h) (by rfl) ?hy15 ?rest15
            case hy15 => intro w; go_simp; (try with_reducible rfl)
            try simp only [Act.put, List.setIfInBounds_toArray, List.set_cons_zero, List.set_cons_succ]
            refine stepK (i := 13) (L := #[true, true, true, true, true, true, true, true, true, true, true, true, true, true, false]) rfl (by rfl) (by kernel_rfl) (by rfl) (fun K hK => ?_)
            go_simp
            obtain ⟨⟨p1, p2, p3⟩, p4, p5, p6⟩ := boxD D4
            go_simp
            refine hK _ _ ⟨fun h => absurd h (by decide), ?_⟩
            clear hK K
            try simp only [Act.put, List.setIfInBounds_toArray, List.set_cons_zero, List.set_cons_succ]
            refine pureE (i := 14) (L := #[true, true, true, true, true, true, true, true, true, true, true, true, true, true, true]) (v := ?_) rfl (by rfl) (by kernel_rfl) (by kernel_rfl) (by kernel_rfl) (fun _ _ _ h => h) (by rfl) ?hy17 ?rest17
            case hy17 => intro w; go_simp; (try with_reducible rfl)
            try simp only [Act.put, List.setIfInBounds_toArray, List.set_cons_zero, List.set_cons_succ]
            refine doneE (by kernel_rfl) ?_ _
            clear p1 p2 p3 p4 p5 p6
            have q4 := box_put D4 (.bool r.neg) (.slice P4 i4 d4) (.int .i64 r.e)
            have d7 := below_put c21 (by omega : w4.heap.size ≤ w11.heap.size) (.bool r.neg) (.slice P4 i4 d4) (.int .i64 r.e)
            have J4 := ints_put IN4 (g := w11.heap.size) (by omega) (.bool r.neg) (.slice P4 i4 d4) (.int .i64 r.e)
            have s7 : w20.heap.size ≤ (((w20.setCell ⟨w11.heap.size, 0, none⟩ (.bool r.neg)).setCell ⟨w11.heap.size, 1, none⟩ (.slice P4 i4 d4)).setCell ⟨w11.heap.size, 2, none⟩ (.int .i64 r.e)).heap.size := by rw [size_put]; exact Nat.le_refl _
            generalize hw : ((w20.setCell ⟨w11.heap.size, 0, none⟩ (.bool r.neg)).setCell ⟨w11.heap.size, 1, none⟩ (.slice P4 i4 d4)).setCell ⟨w11.heap.size, 2, none⟩ (.int .i64 r.e) = w22 at *
            try clear hw
            have e8 := c5.trans (d7.mono (by omega))
            have X9 := (d7.block _ (by omega)).trans sv_D3
            obtain ⟨⟨p1, p2, p3⟩, p4, p5, p6⟩ := boxD q4
            obtain ⟨⟨z1, z2, z3⟩, z4, z5, z6⟩ := boxD X9
            go_wp2
            refine bodyPost_ret (v := .tuple #[.agg #[.bool r.neg, .slice P4 i4 d4, .int .i64 r.e], .int .i64 code]) (by simp [results, Tryd.results21, go_sem, z1, z2, z3]) rfl ⟨P4, i4, d4, rfl, lc4, ?_, ?_⟩
            · exact below_put e8 (by omega) _ _ _
            · exact (ints_put J4 (.inl (by omega)) _ _ _).more (by omega) (by rw [size_put]; omega)
        case o12_5 =>
          
          go_simp
          have hB := (Below.refl w9.heap.size w9).alloc (Nat.le_refl _) (.cells #[.bool false, .slice none 0 0, .int .i64 0] 24)
          have D4 := heap_alloc_last w9 (.cells #[.bool false, .slice none 0 0, .int .i64 0] 24)
          have mw23 : w9.heap.size < (w9.alloc (.cells #[.bool false, .slice none 0 0, .int .i64 0] 24)).heap.size := by simp
          generalize hw : w9.alloc (.cells #[.bool false, .slice none 0 0, .int .i64 0] 24) = w23 at *
          have lw23 : w9.heap.size ≤ w23.heap.size := hB.size
          replace h1 := h1.below hB (by omega)
          replace h2 := h2.below hB (by omega)
          replace IN1 := IN1.below hB (by omega)
          replace IN2 := IN2.below hB (by omega)
          replace D1 := (hB.block _ (by omega)).trans D1
          replace D2 := (hB.block _ (by omega)).trans D2
          replace D3 := (hB.block _ (by omega)).trans D3
          have c24 := c10.trans (hB.mono (by omega))
          clear hB
          try clear hw
          refine hK _ _ ⟨fun _ _ p hp => c24.block p hp, ?_⟩
          clear hK K
          try simp only [Act.put, List.setIfInBounds_toArray, List.set_cons_zero, List.set_cons_succ]
          refine stepK (i := 6) (L := #[true, true, true, true, true, true, true, true, false, false, false, false, true, false, false]) rfl (by rfl) (by kernel_rfl) (by rfl) (fun K hK => ?_)
          go_simp
          go_at_call 68
          refine (rPlus_any w23 a.neg b.neg x y P1 i1 d1 P2 i2 d2 (IN1.more (Nat.zero_le _) (by omega)) (IN2.more (Nat.zero_le _) (by omega)) ln1 ln2 s v HP.out).mono ?_
          rintro e' w25 ⟨P3, i3, d3, rfl, lc3, hB, IN3⟩
          have lw25 : w23.heap.size ≤ w25.heap.size := hB.size
          replace h1 := h1.below hB (by omega)
          replace h2 := h2.below hB (by omega)
          replace IN1 := IN1.below hB (by omega)
          replace IN2 := IN2.below hB (by omega)
          replace D1 := (hB.block _ (by omega)).trans D1
          replace D2 := (hB.block _ (by omega)).trans D2
          replace D3 := (hB.block _ (by omega)).trans D3
          replace D4 := (hB.block _ (by omega)).trans D4
          have c26 := c24.trans (hB.mono (by omega))
          clear hB
          have hi3 : i3 ≤ 2401 := by have := IN3.len; have := HVL.out; omega
          refine hK _ _ ⟨fun _ _ p hp => c26.block p hp, ?_⟩
          clear hK K
          try simp only [Act.put, List.setIfInBounds_toArray, List.set_cons_zero, List.set_cons_succ]
          refine stepK (i := 8) (L := #[true, true, true, true, true, true, true, true, true, false, false, false, true, false, false]) rfl (by rfl) (by kernel_rfl) (by rfl) (fun K hK => ?_)
          go_simp
          go_at_call 67
          refine (rFormed_any w25 s P3 i3 d3 _ (IN3.more (Nat.zero_le _) (by omega)) dig2 lc3 (by omega) KX (by omega) KX rfl v num2 r code HF.out).mono ?_
          rintro e' w27 ⟨P4, i4, d4, rfl, lc4, hB, IN4⟩
          have lw27 : w25.heap.size ≤ w27.heap.size := hB.size
          replace h1 := h1.below hB (by omega)
          replace h2 := h2.below hB (by omega)
          replace IN1 := IN1.below hB (by omega)
          replace IN2 := IN2.below hB (by omega)
          replace IN3 := IN3.below hB (by omega)
          replace D1 := (hB.block _ (by omega)).trans D1
          replace D2 := (hB.block _ (by omega)).trans D2
          replace D3 := (hB.block _ (by omega)).trans D3
          replace D4 := (hB.block _ (by omega)).trans D4
          have c28 := c26.trans (hB.mono (by omega))
          clear hB
          refine hK _ _ ⟨fun _ _ p hp => c28.block p hp, ?_⟩
          clear hK K
          try simp only [Act.put, List.setIfInBounds_toArray, List.set_cons_zero, List.set_cons_succ]
          refine pureE (i := 9) (L := #[true, true, true, true, true, true, true, true, true, true, false, false, true, false, false]) (v := ?_) rfl (by rfl) (by kernel_rfl) (by kernel_rfl) (by kernel_rfl) (fun _ _ _ h => h) (by rfl) ?hy20 ?rest20
          case hy20 => intro w; go_simp; (try with_reducible rfl)
          try simp only [Act.put, List.setIfInBounds_toArray, List.set_cons_zero, List.set_cons_succ]
          refine pureE (i := 10) (L := #[true, true, true, true, true, true, true, true, true, true, true, false, true, false, false]) (v := ?_) rfl (by rfl) (by kernel_rfl) (by kernel_rfl) (by kernel_rfl) (fun _ _ _ h => h) (by rfl) ?hy21 ?rest21
          case hy21 => intro w; go_simp; (try with_reducible rfl)
          try simp only [Act.put, List.setIfInBounds_toArray, List.set_cons_zero, List.set_cons_succ]
          refine pureE (i := 11) (L := #[true, true, true, true, true, true, true, true, true, true, true, true, true, false, false]) (v := ?_) rfl (by rfl) (by kernel_rfl) (by kernel_rfl) (by kernel_rfl) (fun _ _ _ h => h) (by rfl) ?hy22 ?rest22
          case hy22 => intro w; go_simp; (try with_reducible rfl)
          try simp only [Act.put, List.setIfInBounds_toArray, List.set_cons_zero, List.set_cons_succ]
          refine stepK (i := 13) (L := #[true, true, true, true, true, true, true, true, true, true, true, true, true, true, false]) rfl (by rfl) (by kernel_rfl) (by rfl) (fun K hK => ?_)
          go_simp
          obtain ⟨⟨p1, p2, p3⟩, p4, p5, p6⟩ := boxD D4
          go_simp
          refine hK _ _ ⟨fun h => absurd h (by decide), ?_⟩
          clear hK K
          try simp only [Act.put, List.setIfInBounds_toArray, List.set_cons_zero, List.set_cons_succ]
          refine pureE (i := 14) (L := #[true, true, true, true, true, true, true, true, true, true, true, true, true, true, true]) (v := ?_) rfl (by rfl) (by kernel_rfl) (by kernel_rfl) (by kernel_rfl) (fun _ _ _ h => h) (by rfl) ?hy24 ?rest24
          case hy24 => intro w; go_simp; (try with_reducible rfl)
          try simp only [Act.put, List.setIfInBounds_toArray, List.set_cons_zero, List.set_cons_succ]
          refine doneE (by kernel_rfl) ?_ _
          clear p1 p2 p3 p4 p5 p6
          have q4 := box_put D4 (.bool r.neg) (.slice P4 i4 d4) (.int .i64 r.e)
          have d7 := below_put c28 (by omega : w4.heap.size ≤ w9.heap.size) (.bool r.neg) (.slice P4 i4 d4) (.int .i64 r.e)
          have J4 := ints_put IN4 (g := w9.heap.size) (by omega) (.bool r.neg) (.slice P4 i4 d4) (.int .i64 r.e)
          have s7 : w27.heap.size ≤ (((w27.setCell ⟨w9.heap.size, 0, none⟩ (.bool r.neg)).setCell ⟨w9.heap.size, 1, none⟩ (.slice P4 i4 d4)).setCell ⟨w9.heap.size, 2, none⟩ (.int .i64 r.e)).heap.size := by rw [size_put]; exact Nat.le_refl _
          generalize hw : ((w27.setCell ⟨w9.heap.size, 0, none⟩ (.bool r.neg)).setCell ⟨w9.heap.size, 1, none⟩ (.slice P4 i4 d4)).setCell ⟨w9.heap.size, 2, none⟩ (.int .i64 r.e) = w29 at *
          try clear hw
          have e8 := c5.trans (d7.mono (by omega))
          have X9 := (d7.block _ (by omega)).trans sv_D3
          obtain ⟨⟨p1, p2, p3⟩, p4, p5, p6⟩ := boxD q4
          obtain ⟨⟨z1, z2, z3⟩, z4, z5, z6⟩ := boxD X9
          go_wp2
          refine bodyPost_ret (v := .tuple #[.agg #[.bool r.neg, .slice P4 i4 d4, .int .i64 r.e], .int .i64 code]) (by simp [results, Tryd.results21, go_sem, z1, z2, z3]) rfl ⟨P4, i4, d4, rfl, lc4, ?_, ?_⟩
          · exact below_put e8 (by omega) _ _ _
          · exact (ints_put J4 (.inl (by omega)) _ _ _).more (by omega) (by rw [size_put]; omega)
      case o12_4 =>
        
        go_simp
        have hB := (Below.refl w7.heap.size w7).alloc (Nat.le_refl _) (.cells #[.bool false, .slice none 0 0, .int .i64 0] 24)
        have D4 := heap_alloc_last w7 (.cells #[.bool false, .slice none 0 0, .int .i64 0] 24)
        have mw30 : w7.heap.size < (w7.alloc (.cells #[.bool false, .slice none 0 0, .int .i64 0] 24)).heap.size := by simp
        generalize hw : w7.alloc (.cells #[.bool false, .slice none 0 0, .int .i64 0] 24) = w30 at *
        have lw30 : w7.heap.size ≤ w30.heap.size := hB.size
        replace h1 := h1.below hB (by omega)
        replace h2 := h2.below hB (by omega)
        replace IN1 := IN1.below hB (by omega)
        replace D1 := (hB.block _ (by omega)).trans D1
        replace D2 := (hB.block _ (by omega)).trans D2
        replace D3 := (hB.block _ (by omega)).trans D3
        have c31 := c8.trans (hB.mono (by omega))
        clear hB
        try clear hw
        refine hK _ _ ⟨fun _ _ p hp => c31.block p hp, ?_⟩
        clear hK K
        try simp only [Act.put, List.setIfInBounds_toArray, List.set_cons_zero, List.set_cons_succ]
        refine stepK (i := 5) (L := #[true, true, true, true, true, true, false, true, false, false, false, false, true, false, false]) rfl (by rfl) (by kernel_rfl) (by rfl) (fun K hK => ?_)
        go_simp
        go_at_call 69
        refine (In_any w30 b.neg b.m b.e A2 n2 c2 (h2.more (Nat.zero_le _) (by omega)) hn2 KX kb (by omega) y HY.out KX rfl).mono ?_
        rintro e' w32 ⟨P2, i2, d2, rfl, lc2, ln2, hB, IN2⟩
        have lw32 : w30.heap.size ≤ w32.heap.size := hB.size
        replace h1 := h1.below hB (by omega)
        replace h2 := h2.below hB (by omega)
        replace IN1 := IN1.below hB (by omega)
        replace D1 := (hB.block _ (by omega)).trans D1
        replace D2 := (hB.block _ (by omega)).trans D2
        replace D3 := (hB.block _ (by omega)).trans D3
        replace D4 := (hB.block _ (by omega)).trans D4
        have c33 := c31.trans (hB.mono (by omega))
        clear hB
        refine hK _ _ ⟨fun _ _ p hp => c33.block p hp, ?_⟩
        clear hK K
        try simp only [Act.put, List.setIfInBounds_toArray, List.set_cons_zero, List.set_cons_succ]
        refine stepK (i := 6) (L := #[true, true, true, true, true, true, true, true, false, false, false, false, true, false, false]) rfl (by rfl) (by kernel_rfl) (by rfl) (fun K hK => ?_)
        go_simp
        go_at_call 68
        refine (rPlus_any w32 a.neg b.neg x y P1 i1 d1 P2 i2 d2 (IN1.more (Nat.zero_le _) (by omega)) (IN2.more (Nat.zero_le _) (by omega)) ln1 ln2 s v HP.out).mono ?_
        rintro e' w34 ⟨P3, i3, d3, rfl, lc3, hB, IN3⟩
        have lw34 : w32.heap.size ≤ w34.heap.size := hB.size
        replace h1 := h1.below hB (by omega)
        replace h2 := h2.below hB (by omega)
        replace IN1 := IN1.below hB (by omega)
        replace IN2 := IN2.below hB (by omega)
        replace D1 := (hB.block _ (by omega)).trans D1
        replace D2 := (hB.block _ (by omega)).trans D2
        replace D3 := (hB.block _ (by omega)).trans D3
        replace D4 := (hB.block _ (by omega)).trans D4
        have c35 := c33.trans (hB.mono (by omega))
        clear hB
        have hi3 : i3 ≤ 2401 := by have := IN3.len; have := HVL.out; omega
        refine hK _ _ ⟨fun _ _ p hp => c35.block p hp, ?_⟩
        clear hK K
        try simp only [Act.put, List.setIfInBounds_toArray, List.set_cons_zero, List.set_cons_succ]
        refine stepK (i := 8) (L := #[true, true, true, true, true, true, true, true, true, false, false, false, true, false, false]) rfl (by rfl) (by kernel_rfl) (by rfl) (fun K hK => ?_)
        go_simp
        go_at_call 67
        refine (rFormed_any w34 s P3 i3 d3 _ (IN3.more (Nat.zero_le _) (by omega)) dig2 lc3 (by omega) KX (by omega) KX rfl v num2 r code HF.out).mono ?_
        rintro e' w36 ⟨P4, i4, d4, rfl, lc4, hB, IN4⟩
        have lw36 : w34.heap.size ≤ w36.heap.size := hB.size
        replace h1 := h1.below hB (by omega)
        replace h2 := h2.below hB (by omega)
        replace IN1 := IN1.below hB (by omega)
        replace IN2 := IN2.below hB (by omega)
        replace IN3 := IN3.below hB (by omega)
        replace D1 := (hB.block _ (by omega)).trans D1
        replace D2 := (hB.block _ (by omega)).trans D2
        replace D3 := (hB.block _ (by omega)).trans D3
        replace D4 := (hB.block _ (by omega)).trans D4
        have c37 := c35.trans (hB.mono (by omega))
        clear hB
        refine hK _ _ ⟨fun _ _ p hp => c37.block p hp, ?_⟩
        clear hK K
        try simp only [Act.put, List.setIfInBounds_toArray, List.set_cons_zero, List.set_cons_succ]
        refine pureE (i := 9) (L := #[true, true, true, true, true, true, true, true, true, true, false, false, true, false, false]) (v := ?_) rfl (by rfl) (by kernel_rfl) (by kernel_rfl) (by kernel_rfl) (fun _ _ _ h => h) (by rfl) ?hy28 ?rest28
        case hy28 => intro w; go_simp; (try with_reducible rfl)
        try simp only [Act.put, List.setIfInBounds_toArray, List.set_cons_zero, List.set_cons_succ]
        refine pureE (i := 10) (L := #[true, true, true, true, true, true, true, true, true, true, true, false, true, false, false]) (v := ?_) rfl (by rfl) (by kernel_rfl) (by kernel_rfl) (by kernel_rfl) (fun _ _ _ h => h) (by rfl) ?hy29 ?rest29
        case hy29 => intro w; go_simp; (try with_reducible rfl)
        try simp only [Act.put, List.setIfInBounds_toArray, List.set_cons_zero, List.set_cons_succ]
        refine pureE (i := 11) (L := #[true, true, true, true, true, true, true, true, true, true, true, true, true, false, false]) (v := ?_) rfl (by rfl) (by kernel_rfl) (by kernel_rfl) (by kernel_rfl) (fun _ _ _ h => h) (by rfl) ?hy30 ?rest30
        case hy30 => intro w; go_simp; (try with_reducible rfl)
        try simp only [Act.put, List.setIfInBounds_toArray, List.set_cons_zero, List.set_cons_succ]
        refine stepK (i := 13) (L := #[true, true, true, true, true, true, true, true, true, true, true, true, true, true, false]) rfl (by rfl) (by kernel_rfl) (by rfl) (fun K hK => ?_)
        go_simp
        obtain ⟨⟨p1, p2, p3⟩, p4, p5, p6⟩ := boxD D4
        go_simp
        refine hK _ _ ⟨fun h => absurd h (by decide), ?_⟩
        clear hK K
        try simp only [Act.put, List.setIfInBounds_toArray, List.set_cons_zero, List.set_cons_succ]
        refine pureE (i := 14) (L := #[true, true, true, true, true, true, true, true, true, true, true, true, true, true, true]) (v := ?_) rfl (by rfl) (by kernel_rfl) (by kernel_rfl) (by kernel_rfl) (fun _ _ _ h => h) (by rfl) ?hy32 ?rest32
        case hy32 => intro w; go_simp; (try with_reducible rfl)
        try simp only [Act.put, List.setIfInBounds_toArray, List.set_cons_zero, List.set_cons_succ]
        refine doneE (by kernel_rfl) ?_ _
        clear p1 p2 p3 p4 p5 p6
        have q4 := box_put D4 (.bool r.neg) (.slice P4 i4 d4) (.int .i64 r.e)
        have d7 := below_put c37 (by omega : w4.heap.size ≤ w7.heap.size) (.bool r.neg) (.slice P4 i4 d4) (.int .i64 r.e)
        have J4 := ints_put IN4 (g := w7.heap.size) (by omega) (.bool r.neg) (.slice P4 i4 d4) (.int .i64 r.e)
        have s7 : w36.heap.size ≤ (((w36.setCell ⟨w7.heap.size, 0, none⟩ (.bool r.neg)).setCell ⟨w7.heap.size, 1, none⟩ (.slice P4 i4 d4)).setCell ⟨w7.heap.size, 2, none⟩ (.int .i64 r.e)).heap.size := by rw [size_put]; exact Nat.le_refl _
        generalize hw : ((w36.setCell ⟨w7.heap.size, 0, none⟩ (.bool r.neg)).setCell ⟨w7.heap.size, 1, none⟩ (.slice P4 i4 d4)).setCell ⟨w7.heap.size, 2, none⟩ (.int .i64 r.e) = w38 at *
        try clear hw
        have e8 := c5.trans (d7.mono (by omega))
        have X9 := (d7.block _ (by omega)).trans sv_D3
        obtain ⟨⟨p1, p2, p3⟩, p4, p5, p6⟩ := boxD q4
        obtain ⟨⟨z1, z2, z3⟩, z4, z5, z6⟩ := boxD X9
        go_wp2
        refine bodyPost_ret (v := .tuple #[.agg #[.bool r.neg, .slice P4 i4 d4, .int .i64 r.e], .int .i64 code]) (by simp [results, Tryd.results21, go_sem, z1, z2, z3]) rfl ⟨P4, i4, d4, rfl, lc4, ?_, ?_⟩
        · exact below_put e8 (by omega) _ _ _
        · exact (ints_put J4 (.inl (by omega)) _ _ _).more (by omega) (by rw [size_put]; omega)
    case o12_3 =>
      
      go_simp
      have hB := (Below.refl w6.heap.size w6).alloc (Nat.le_refl _) (.cells #[.bool false, .slice none 0 0, .int .i64 0] 24)
      have D4 := heap_alloc_last w6 (.cells #[.bool false, .slice none 0 0, .int .i64 0] 24)
      have mw39 : w6.heap.size < (w6.alloc (.cells #[.bool false, .slice none 0 0, .int .i64 0] 24)).heap.size := by simp
      generalize hw : w6.alloc (.cells #[.bool false, .slice none 0 0, .int .i64 0] 24) = w39 at *
      have lw39 : w6.heap.size ≤ w39.heap.size := hB.size
      replace h1 := h1.below hB (by omega)
      replace h2 := h2.below hB (by omega)
      replace D1 := (hB.block _ (by omega)).trans D1
      replace D2 := (hB.block _ (by omega)).trans D2
      replace D3 := (hB.block _ (by omega)).trans D3
      have c40 := hB0.trans (hB.mono (by omega))
      clear hB
      try clear hw
      refine hK _ _ ⟨fun _ _ p hp => c40.block p hp, ?_⟩
      clear hK K
      try simp only [Act.put, List.setIfInBounds_toArray, List.set_cons_zero, List.set_cons_succ]
      refine stepK (i := 2) (L := #[true, true, true, true, true, false, false, true, false, false, false, false, true, false, false]) rfl (by rfl) (by kernel_rfl) (by rfl) (fun K hK => ?_)
      go_simp
      go_at_call 69
      refine (In_any w39 a.neg a.m a.e A1 n1 c1 (h1.more (Nat.zero_le _) (by omega)) hn1 KX ka (by omega) x HX.out KX rfl).mono ?_
      rintro e' w41 ⟨P1, i1, d1, rfl, lc1, ln1, hB, IN1⟩
      have lw41 : w39.heap.size ≤ w41.heap.size := hB.size
      replace h1 := h1.below hB (by omega)
      replace h2 := h2.below hB (by omega)
      replace D1 := (hB.block _ (by omega)).trans D1
      replace D2 := (hB.block _ (by omega)).trans D2
      replace D3 := (hB.block _ (by omega)).trans D3
      replace D4 := (hB.block _ (by omega)).trans D4
      have c42 := c40.trans (hB.mono (by omega))
      clear hB
      refine hK _ _ ⟨fun _ _ p hp => c42.block p hp, ?_⟩
      clear hK K
      try simp only [Act.put, List.setIfInBounds_toArray, List.set_cons_zero, List.set_cons_succ]
      refine stepK (i := 5) (L := #[true, true, true, true, true, true, false, true, false, false, false, false, true, false, false]) rfl (by rfl) (by kernel_rfl) (by rfl) (fun K hK => ?_)
      go_simp
      go_at_call 69
      refine (In_any w41 b.neg b.m b.e A2 n2 c2 (h2.more (Nat.zero_le _) (by omega)) hn2 KX kb (by omega) y HY.out KX rfl).mono ?_
      rintro e' w43 ⟨P2, i2, d2, rfl, lc2, ln2, hB, IN2⟩
      have lw43 : w41.heap.size ≤ w43.heap.size := hB.size
      replace h1 := h1.below hB (by omega)
      replace h2 := h2.below hB (by omega)
      replace IN1 := IN1.below hB (by omega)
      replace D1 := (hB.block _ (by omega)).trans D1
      replace D2 := (hB.block _ (by omega)).trans D2
      replace D3 := (hB.block _ (by omega)).trans D3
      replace D4 := (hB.block _ (by omega)).trans D4
      have c44 := c42.trans (hB.mono (by omega))
      clear hB
      refine hK _ _ ⟨fun _ _ p hp => c44.block p hp, ?_⟩
      clear hK K
      try simp only [Act.put, List.setIfInBounds_toArray, List.set_cons_zero, List.set_cons_succ]
      refine stepK (i := 6) (L := #[true, true, true, true, true, true, true, true, false, false, false, false, true, false, false]) rfl (by rfl) (by kernel_rfl) (by rfl) (fun K hK => ?_)
      go_simp
      go_at_call 68
      refine (rPlus_any w43 a.neg b.neg x y P1 i1 d1 P2 i2 d2 (IN1.more (Nat.zero_le _) (by omega)) (IN2.more (Nat.zero_le _) (by omega)) ln1 ln2 s v HP.out).mono ?_
      rintro e' w45 ⟨P3, i3, d3, rfl, lc3, hB, IN3⟩
      have lw45 : w43.heap.size ≤ w45.heap.size := hB.size
      replace h1 := h1.below hB (by omega)
      replace h2 := h2.below hB (by omega)
      replace IN1 := IN1.below hB (by omega)
      replace IN2 := IN2.below hB (by omega)
      replace D1 := (hB.block _ (by omega)).trans D1
      replace D2 := (hB.block _ (by omega)).trans D2
      replace D3 := (hB.block _ (by omega)).trans D3
      replace D4 := (hB.block _ (by omega)).trans D4
      have c46 := c44.trans (hB.mono (by omega))
      clear hB
      have hi3 : i3 ≤ 2401 := by have := IN3.len; have := HVL.out; omega
      refine hK _ _ ⟨fun _ _ p hp => c46.block p hp, ?_⟩
      clear hK K
      try simp only [Act.put, List.setIfInBounds_toArray, List.set_cons_zero, List.set_cons_succ]
      refine stepK (i := 8) (L := #[true, true, true, true, true, true, true, true, true, false, false, false, true, false, false]) rfl (by rfl) (by kernel_rfl) (by rfl) (fun K hK => ?_)
      go_simp
      go_at_call 67
      refine (rFormed_any w45 s P3 i3 d3 _ (IN3.more (Nat.zero_le _) (by omega)) dig2 lc3 (by omega) KX (by omega) KX rfl v num2 r code HF.out).mono ?_
      rintro e' w47 ⟨P4, i4, d4, rfl, lc4, hB, IN4⟩
      have lw47 : w45.heap.size ≤ w47.heap.size := hB.size
      replace h1 := h1.below hB (by omega)
      replace h2 := h2.below hB (by omega)
      replace IN1 := IN1.below hB (by omega)
      replace IN2 := IN2.below hB (by omega)
      replace IN3 := IN3.below hB (by omega)
      replace D1 := (hB.block _ (by omega)).trans D1
      replace D2 := (hB.block _ (by omega)).trans D2
      replace D3 := (hB.block _ (by omega)).trans D3
      replace D4 := (hB.block _ (by omega)).trans D4
      have c48 := c46.trans (hB.mono (by omega))
      clear hB
      refine hK _ _ ⟨fun _ _ p hp => c48.block p hp, ?_⟩
      clear hK K
      try simp only [Act.put, List.setIfInBounds_toArray, List.set_cons_zero, List.set_cons_succ]
      refine pureE (i := 9) (L := #[true, true, true, true, true, true, true, true, true, true, false, false, true, false, false]) (v := ?_) rfl (by rfl) (by kernel_rfl) (by kernel_rfl) (by kernel_rfl) (fun _ _ _ h => h) (by rfl) ?hy37 ?rest37
      case hy37 => intro w; go_simp; (try with_reducible rfl)
      try simp only [Act.put, List.setIfInBounds_toArray, List.set_cons_zero, List.set_cons_succ]
      refine pureE (i := 10) (L := #[true, true, true, true, true, true, true, true, true, true, true, false, true, false, false]) (v := ?_) rfl (by rfl) (by kernel_rfl) (by kernel_rfl) (by kernel_rfl) (fun _ _ _ h => h) (by rfl) ?hy38 ?rest38
      case hy38 => intro w; go_simp; (try with_reducible rfl)
      try simp only [Act.put, List.setIfInBounds_toArray, List.set_cons_zero, List.set_cons_succ]
      refine pureE (i := 11) (L := #[true, true, true, true, true, true, true, true, true, true, true, true, true, false, false]) (v := ?_) rfl (by rfl) (by kernel_rfl) (by kernel_rfl) (by kernel_rfl) (fun _ _ _ h => h) (by rfl) ?hy39 ?rest39
      case hy39 => intro w; go_simp; (try with_reducible rfl)
      try simp only [Act.put, List.setIfInBounds_toArray, List.set_cons_zero, List.set_cons_succ]
      refine stepK (i := 13) (L := #[true, true, true, true, true, true, true, true, true, true, true, true, true, true, false]) rfl (by rfl) (by kernel_rfl) (by rfl) (fun K hK => ?_)
      go_simp
      obtain ⟨⟨p1, p2, p3⟩, p4, p5, p6⟩ := boxD D4
      go_simp
      refine hK _ _ ⟨fun h => absurd h (by decide), ?_⟩
      clear hK K
      try simp only [Act.put, List.setIfInBounds_toArray, List.set_cons_zero, List.set_cons_succ]
      refine pureE (i := 14) (L := #[true, true, true, true, true, true, true, true, true, true, true, true, true, true, true]) (v := ?_) rfl (by rfl) (by kernel_rfl) (by kernel_rfl) (by kernel_rfl) (fun _ _ _ h => h) (by rfl) ?hy41 ?rest41
      case hy41 => intro w; go_simp; (try with_reducible rfl)
      try simp only [Act.put, List.setIfInBounds_toArray, List.set_cons_zero, List.set_cons_succ]
      refine doneE (by kernel_rfl) ?_ _
      clear p1 p2 p3 p4 p5 p6
      have q4 := box_put D4 (.bool r.neg) (.slice P4 i4 d4) (.int .i64 r.e)
      have d7 := below_put c48 (by omega : w4.heap.size ≤ w6.heap.size) (.bool r.neg) (.slice P4 i4 d4) (.int .i64 r.e)
      have J4 := ints_put IN4 (g := w6.heap.size) (by omega) (.bool r.neg) (.slice P4 i4 d4) (.int .i64 r.e)
      have s7 : w47.heap.size ≤ (((w47.setCell ⟨w6.heap.size, 0, none⟩ (.bool r.neg)).setCell ⟨w6.heap.size, 1, none⟩ (.slice P4 i4 d4)).setCell ⟨w6.heap.size, 2, none⟩ (.int .i64 r.e)).heap.size := by rw [size_put]; exact Nat.le_refl _
      generalize hw : ((w47.setCell ⟨w6.heap.size, 0, none⟩ (.bool r.neg)).setCell ⟨w6.heap.size, 1, none⟩ (.slice P4 i4 d4)).setCell ⟨w6.heap.size, 2, none⟩ (.int .i64 r.e) = w49 at *
      try clear hw
      have e8 := c5.trans (d7.mono (by omega))
      have X9 := (d7.block _ (by omega)).trans sv_D3
      obtain ⟨⟨p1, p2, p3⟩, p4, p5, p6⟩ := boxD q4
      obtain ⟨⟨z1, z2, z3⟩, z4, z5, z6⟩ := boxD X9
      go_wp2
      refine bodyPost_ret (v := .tuple #[.agg #[.bool r.neg, .slice P4 i4 d4, .int .i64 r.e], .int .i64 code]) (by simp [results, Tryd.results21, go_sem, z1, z2, z3]) rfl ⟨P4, i4, d4, rfl, lc4, ?_, ?_⟩
      · exact below_put e8 (by omega) _ _ _
      · exact (ints_put J4 (.inl (by omega)) _ _ _).more (by omega) (by rw [size_put]; omega)
end Dy
end Go.Proofs.YtlbkepiflhchdaaDoor
namespace Go.Proofs.YtlbkepiflhchdaaDoor
open Go.RowKit
section
variable {P : Program} {ops : Array Oper} {Q : Exit → Act → World → Prop} {md : Region.Mode} {l n : Nat}
end
section
variable {P : Program} {ops : Array Oper} {os : List Oper} {Q : Exit → Act → World → Prop} {md : Region.Mode} {S : World → Prop} {k : Nat}
/-- Number k waits for number i. -/
def waits (md : Region.Mode) (ops : Array Oper) (k i : Nat) : Bool := match ops[k]? with
  | none => true
  | some o => o.after.any fun e => Region.binds md e && e.on == i
end
end Go.Proofs.YtlbkepiflhchdaaDoor
namespace Go.Proofs.YtlbkepiflhchdaaDoor
open Go.RowKit
namespace Ma
open Dp Dy
attribute [local go_sem] Oper.semAt_some
def sameV (d d' : Dv) : Bool := Pa.Dy.same ⟨d.s, d.xs, d.e⟩ ⟨d'.s, d'.xs, d'.e⟩
def sameM (a b : Mv) : Bool := sameV a.S b.S && sameV a.W b.W && sameV a.C b.C && sameV a.A b.A
theorem four {p : Nat → Prop} (h0 : p 0) (h1 : p 1) (h2 : p 2) (h3 : p 3) : ∀ x, x < 4 → p x := fun x hx => by
  have hx' : x = 0 ∨ x = 1 ∨ x = 2 ∨ x = 3 := by omega
  rcases hx' with rfl | rfl | rfl | rfl
  · exact h0
  · exact h1
  · exact h2
  · exact h3
theorem sameM_iff (a b : Mv) : sameM a b = true ↔ ∀ x, x < 4 → sameV (a.get x) (b.get x) = true := by
  unfold sameM
  simp only [Bool.and_eq_true]
  exact ⟨fun h => four h.1.1.1 h.1.1.2 h.1.2 h.2, fun h => ⟨⟨⟨h 0 (by decide), h 1 (by decide)⟩, h 2 (by decide)⟩, h 3 (by decide)⟩⟩
end Ma
end Go.Proofs.YtlbkepiflhchdaaDoor
namespace Go.Proofs.YtlbkepiflhchdaaDoor
open Go.RowKit
namespace Ma
open Dp Dy
attribute [local go_sem] Oper.semAt_some
def Mv.put (m : Mv) (x : Nat) (d : Dv) : Mv := match x with
  | 0 => { m with S := d }
  | 1 => { m with W := d }
  | 2 => { m with C := d }
  | _ => { m with A := d }
theorem MBox.put {w : World} {g : Nat} {m : Mv} (h : MBox w g m) {x : Nat} (hx : x < 4) (d : Dv) :
    MBox (((w.setCell ⟨g, 3 * x, none⟩ (.bool d.s)).setCell ⟨g, 3 * x + 1, none⟩ (.slice d.A d.n d.c)).setCell ⟨g, 3 * x + 2, none⟩ (.int .i64 d.e)) g (m.put x d) := by
  have hx' : x = 0 ∨ x = 1 ∨ x = 2 ∨ x = 3 := by omega
  unfold MBox at *
  rcases hx' with rfl | rfl | rfl | rfl <;> simp [World.setCell, Array.getElem?_modify, h, Mv.put]
theorem MBox.cells {w : World} {g : Nat} {m : Mv} (h : MBox w g m) : (w.cell? ⟨g, 0, none⟩ = some (.bool m.S.s) ∧ w.cell? ⟨g, 1, none⟩ = some (.slice m.S.A m.S.n m.S.c) ∧ w.cell? ⟨g, 2, none⟩ = some (.int .i64 m.S.e) ∧ w.cell? ⟨g, 3, none⟩ = some (.bool m.W.s) ∧ w.cell? ⟨g, 4, none⟩ = some (.slice m.W.A m.W.n m.W.c) ∧ w.cell? ⟨g, 5, none⟩ = some (.int .i64 m.W.e) ∧ w.cell? ⟨g, 6, none⟩ = some (.bool m.C.s) ∧ w.cell? ⟨g, 7, none⟩ = some (.slice m.C.A m.C.n m.C.c) ∧ w.cell? ⟨g, 8, none⟩ = some (.int .i64 m.C.e) ∧ w.cell? ⟨g, 9, none⟩ = some (.bool m.A.s) ∧ w.cell? ⟨g, 10, none⟩ = some (.slice m.A.A m.A.n m.A.c) ∧ w.cell? ⟨g, 11, none⟩ = some (.int .i64 m.A.e)) ∧ ∀ k, w.frozen? ⟨g, k, none⟩ = false := by
  refine ⟨?_, fun k => frozen_of_row w g k _ _ h⟩
  have hc : ∀ k v, (#[.bool m.S.s, .slice m.S.A m.S.n m.S.c, .int .i64 m.S.e, .bool m.W.s, .slice m.W.A m.W.n m.W.c, .int .i64 m.W.e, .bool m.C.s, .slice m.C.A m.C.n m.C.c, .int .i64 m.C.e, .bool m.A.s, .slice m.A.A m.A.n m.A.c, .int .i64 m.A.e] : Array Value)[k]? = some v → w.cell? ⟨g, k, none⟩ = some v := fun k v hk => by
    unfold MBox at h
    simp [World.cell?, h]
    simpa using hk
  exact ⟨hc _ _ rfl, hc _ _ rfl, hc _ _ rfl, hc _ _ rfl, hc _ _ rfl, hc _ _ rfl, hc _ _ rfl, hc _ _ rfl, hc _ _ rfl, hc _ _ rfl, hc _ _ rfl, hc _ _ rfl⟩
/-- A whole mass is laid into a block of 12 cells. -/
theorem MBox.all {w : World} {g : Nat} {m0 : Mv} (h : MBox w g m0) (m : Mv) : MBox ((((((((((((w.setCell ⟨g, 0, none⟩ (.bool m.S.s)).setCell ⟨g, 1, none⟩ (.slice m.S.A m.S.n m.S.c)).setCell ⟨g, 2, none⟩ (.int .i64 m.S.e)).setCell ⟨g, 3, none⟩ (.bool m.W.s)).setCell ⟨g, 4, none⟩ (.slice m.W.A m.W.n m.W.c)).setCell ⟨g, 5, none⟩ (.int .i64 m.W.e)).setCell ⟨g, 6, none⟩ (.bool m.C.s)).setCell ⟨g, 7, none⟩ (.slice m.C.A m.C.n m.C.c)).setCell ⟨g, 8, none⟩ (.int .i64 m.C.e)).setCell ⟨g, 9, none⟩ (.bool m.A.s)).setCell ⟨g, 10, none⟩ (.slice m.A.A m.A.n m.A.c)).setCell ⟨g, 11, none⟩ (.int .i64 m.A.e)) g m :=
  ((((h.put (x := 0) (by decide) m.S).put (x := 1) (by decide) m.W).put (x := 2) (by decide) m.C).put (x := 3) (by decide) m.A)
theorem below_all {w0 w : World} {B g : Nat} (h : Below B w0 w) (hg : B ≤ g) (m : Mv) : Below B w0 ((((((((((((w.setCell ⟨g, 0, none⟩ (.bool m.S.s)).setCell ⟨g, 1, none⟩ (.slice m.S.A m.S.n m.S.c)).setCell ⟨g, 2, none⟩ (.int .i64 m.S.e)).setCell ⟨g, 3, none⟩ (.bool m.W.s)).setCell ⟨g, 4, none⟩ (.slice m.W.A m.W.n m.W.c)).setCell ⟨g, 5, none⟩ (.int .i64 m.W.e)).setCell ⟨g, 6, none⟩ (.bool m.C.s)).setCell ⟨g, 7, none⟩ (.slice m.C.A m.C.n m.C.c)).setCell ⟨g, 8, none⟩ (.int .i64 m.C.e)).setCell ⟨g, 9, none⟩ (.bool m.A.s)).setCell ⟨g, 10, none⟩ (.slice m.A.A m.A.n m.A.c)).setCell ⟨g, 11, none⟩ (.int .i64 m.A.e)) :=
  ((((((((((((h.setCell hg _).setCell hg _).setCell hg _).setCell hg _).setCell hg _).setCell hg _).setCell hg _).setCell hg _).setCell hg _).setCell hg _).setCell hg _).setCell hg _)
theorem size_set (w : World) (p : Addr) (v : Value) : (w.setCell p v).heap.size = w.heap.size := by simp [World.setCell]
theorem size_all {w : World} {g : Nat} (m : Mv) : (((((((((((((w.setCell ⟨g, 0, none⟩ (.bool m.S.s)).setCell ⟨g, 1, none⟩ (.slice m.S.A m.S.n m.S.c)).setCell ⟨g, 2, none⟩ (.int .i64 m.S.e)).setCell ⟨g, 3, none⟩ (.bool m.W.s)).setCell ⟨g, 4, none⟩ (.slice m.W.A m.W.n m.W.c)).setCell ⟨g, 5, none⟩ (.int .i64 m.W.e)).setCell ⟨g, 6, none⟩ (.bool m.C.s)).setCell ⟨g, 7, none⟩ (.slice m.C.A m.C.n m.C.c)).setCell ⟨g, 8, none⟩ (.int .i64 m.C.e)).setCell ⟨g, 9, none⟩ (.bool m.A.s)).setCell ⟨g, 10, none⟩ (.slice m.A.A m.A.n m.A.c)).setCell ⟨g, 11, none⟩ (.int .i64 m.A.e))).heap.size = w.heap.size := by simp only [size_set]
theorem far_all {w : World} {g g' : Nat} (hne : g' ≠ g) (m : Mv) : (((((((((((((w.setCell ⟨g, 0, none⟩ (.bool m.S.s)).setCell ⟨g, 1, none⟩ (.slice m.S.A m.S.n m.S.c)).setCell ⟨g, 2, none⟩ (.int .i64 m.S.e)).setCell ⟨g, 3, none⟩ (.bool m.W.s)).setCell ⟨g, 4, none⟩ (.slice m.W.A m.W.n m.W.c)).setCell ⟨g, 5, none⟩ (.int .i64 m.W.e)).setCell ⟨g, 6, none⟩ (.bool m.C.s)).setCell ⟨g, 7, none⟩ (.slice m.C.A m.C.n m.C.c)).setCell ⟨g, 8, none⟩ (.int .i64 m.C.e)).setCell ⟨g, 9, none⟩ (.bool m.A.s)).setCell ⟨g, 10, none⟩ (.slice m.A.A m.A.n m.A.c)).setCell ⟨g, 11, none⟩ (.int .i64 m.A.e))).heap[g']? = w.heap[g']? := by
  exact (Below.heap_setCell _ _ _ _ hne).trans ((Below.heap_setCell _ _ _ _ hne).trans ((Below.heap_setCell _ _ _ _ hne).trans ((Below.heap_setCell _ _ _ _ hne).trans ((Below.heap_setCell _ _ _ _ hne).trans ((Below.heap_setCell _ _ _ _ hne).trans ((Below.heap_setCell _ _ _ _ hne).trans ((Below.heap_setCell _ _ _ _ hne).trans ((Below.heap_setCell _ _ _ _ hne).trans ((Below.heap_setCell _ _ _ _ hne).trans ((Below.heap_setCell _ _ _ _ hne).trans (Below.heap_setCell _ _ _ _ hne)))))))))))
def ZM : Mv := ⟨⟨false, none, 0, 0, 0, []⟩, ⟨false, none, 0, 0, 0, []⟩, ⟨false, none, 0, 0, 0, []⟩, ⟨false, none, 0, 0, 0, []⟩⟩
/-- A twin: the same but for where it lies. -/
def TwinV (d d' : Dv) : Prop := d'.s = d.s ∧ d'.n = d.n ∧ d'.e = d.e ∧ d'.xs = d.xs ∧ d'.n ≤ d'.c
theorem ints_own {W W' : World} {row : Option Nat} {lo hi : Nat} {k : IntKind} {A : Option Addr} {n : Nat} {xs : List Int} (h : Ints W lo hi k A n xs) (hg : W.grownBy W' row) (hr : ∀ r, row = some r → (∃ o : Obj, W.heap[r]? = some o ∧ o.isCells = false) ∨ r < lo) : Ints W' lo hi k A n xs :=
  ⟨h.len, h.wf, h.big, fun h0 => by
    obtain ⟨b, off, e, h1, h2, hc⟩ := h.row h0
    have hlt := World.block_lt_of_cell? W _ (hc 0 h0).1
    have h3 : W'.heap[b]? = W.heap[b]? := hg.block b hlt fun e' => by
      rcases hr b e'.symm with ⟨o, h4, h5⟩ | h4
      · have := (hc 0 h0).1
        rw [World.cell?] at this
        simp only [h4] at this
        cases o <;> simp_all [Obj.isCells]
      · omega
    exact ⟨b, off, e, h1, h2, fun j hj => ⟨by rw [World.cell?_of_block h3]; exact (hc j hj).1, by rw [World.frozen?_of_block h3]; exact (hc j hj).2⟩⟩⟩
end Ma
end Go.Proofs.YtlbkepiflhchdaaDoor
namespace Go.Proofs.YtlbkepiflhchdaaDoor
open Go.RowKit
namespace Dy
open Dp
set_option maxHeartbeats 3200000 in
set_option maxRecDepth 100000 in
theorem rSub_bad (w : World) (s1 s2 : Bool) (A1 A2 : Option Addr) (n1 c1 n2 c2 : Nat) (xs1 xs2 : List Int) (e1 e2 : Int) (h1 : Ints w 0 w.heap.size .u32 A1 n1 xs1) (h2 : Ints w 0 w.heap.size .u32 A2 n2 xs2) (h : ¬ MayD s1 xs1 e1 ∨ ¬ MayD s2 xs2 e2) :
    Calls Tryd.prog 23 #[.agg #[.bool s1, .slice A1 n1 c1, .int .i64 e1], .agg #[.bool s2, .slice A2 n2 c2, .int .i64 e2]] w (Bad w) := by
  generalize hw : ((w.alloc (.cells #[.bool s1, .slice A1 n1 c1, .int .i64 e1] 24)).alloc (.cells #[.bool s2, .slice A2 n2 c2, .int .i64 e2] 24)).alloc (.cells #[.bool false, .slice none 0 0, .int .i64 0] 24) = w1 at *
  obtain ⟨D1, D2, D3, b1, l1, l2⟩ := boxes3 w _ _ _ hw
  replace h1 := h1.below b1 (Nat.le_refl _)
  replace h2 := h2.below b1 (Nat.le_refl _)
  by_cases m1 : MayD s1 xs1 e1
  · have m2 := Lib.hid (h.resolve_left (fun k => k m1))
    have M1 := Lib.hid m1
    clear h m1
    obtain ⟨⟨pD1, qD1, rD1⟩, uD1, vD1, xD1⟩ := boxD D1
    go_enter Tryd.func23, Tryd.ntmps23
    go_wp2_with fail
    try clear hw
    refine (rMay_ok w1 0 w.heap.size s1 A1 n1 c1 _ e1 h1 (by omega) M1.out).mono ?_
    rintro e' w2 ⟨rfl, hB⟩
    clear pD1 qD1 rD1 uD1 vD1 xD1
    have lw2 : w1.heap.size ≤ w2.heap.size := hB.size
    replace h1 := h1.below hB (by omega)
    replace h2 := h2.below hB (by omega)
    replace D1 := (hB.block _ (by omega)).trans D1
    replace D2 := (hB.block _ (by omega)).trans D2
    replace D3 := (hB.block _ (by omega)).trans D3
    have c3 := b1.trans (hB.mono (by omega))
    clear hB
    obtain ⟨⟨pD2, qD2, rD2⟩, uD2, vD2, xD2⟩ := boxD D2
    go_wp2_with fail
    refine (rMay_bad w2 0 w.heap.size s2 A2 n2 c2 _ e2 h2 (by omega) m2.out).mono ?_
    rintro e' w4 ⟨rfl, hB⟩
    clear pD2 qD2 rD2 uD2 vD2 xD2
    have lw4 : w2.heap.size ≤ w4.heap.size := hB.size
    replace h1 := h1.below hB (by omega)
    replace h2 := h2.below hB (by omega)
    replace D1 := (hB.block _ (by omega)).trans D1
    replace D2 := (hB.block _ (by omega)).trans D2
    replace D3 := (hB.block _ (by omega)).trans D3
    have c5 := c3.trans (hB.mono (by omega))
    clear hB
    obtain ⟨⟨z1, z2, z3⟩, z4, z5, z6⟩ := boxD D3
    go_wp2
    exact bodyPost_ret (v := .tuple #[.agg #[.bool false, .slice none 0 0, .int .i64 0], .int .i64 8]) (by simp [results, Tryd.results23, go_sem, z1, z2, z3]) rfl ⟨rfl, below_put c5 (by omega) _ _ _⟩
  · have M1 := Lib.hid m1
    clear h m1
    obtain ⟨⟨pD1, qD1, rD1⟩, uD1, vD1, xD1⟩ := boxD D1
    go_enter Tryd.func23, Tryd.ntmps23
    go_wp2_with fail
    try clear hw
    refine (rMay_bad w1 0 w.heap.size s1 A1 n1 c1 _ e1 h1 (by omega) M1.out).mono ?_
    rintro e' w2 ⟨rfl, hB⟩
    clear pD1 qD1 rD1 uD1 vD1 xD1
    have lw2 : w1.heap.size ≤ w2.heap.size := hB.size
    replace h1 := h1.below hB (by omega)
    replace h2 := h2.below hB (by omega)
    replace D1 := (hB.block _ (by omega)).trans D1
    replace D2 := (hB.block _ (by omega)).trans D2
    replace D3 := (hB.block _ (by omega)).trans D3
    have c3 := b1.trans (hB.mono (by omega))
    clear hB
    obtain ⟨⟨z1, z2, z3⟩, z4, z5, z6⟩ := boxD D3
    go_wp2
    exact bodyPost_ret (v := .tuple #[.agg #[.bool false, .slice none 0 0, .int .i64 0], .int .i64 8]) (by simp [results, Tryd.results23, go_sem, z1, z2, z3]) rfl ⟨rfl, below_put c3 (by omega) _ _ _⟩
set_option maxHeartbeats 6400000 in
set_option maxRecDepth 100000 in
/-- headcountref02.Sub, of two that may be. -/
theorem rSub_dn (w : World) (a b : Dn) (ha : a.May) (hb : b.May) (A1 A2 : Option Addr) (n1 c1 n2 c2 : Nat) (h1 : Ints w 0 w.heap.size .u32 A1 n1 (canon 4294967296 a.m)) (h2 : Ints w 0 w.heap.size .u32 A2 n2 (canon 4294967296 b.m)) (r : Dn) (code : Int) (h : subD a b = (r, code)) :
    Calls Tryd.prog 23 #[.agg #[.bool a.neg, .slice A1 n1 c1, .int .i64 a.e], .agg #[.bool b.neg, .slice A2 n2 c2, .int .i64 b.e]] w (Formed w r code) := by
  have ma := Lib.hid (dn_may ha)
  have mb := Lib.hid (dn_may hb)
  have H := Lib.hid h
  have ht : (if n2 = 0 then b.neg else !b.neg) = (negD b).neg := by
    have hl := canon_len0 h2
    unfold negD
    by_cases h0 : n2 = 0
    · have hm : b.m = 0 := by simpa [h0] using hl
      rw [if_pos h0, (hb.2.2.1 hm).2]
      simp [hm]
    · have hm : b.m ≠ 0 := by simpa [h0] using hl
      rw [if_neg h0]
      simp [hm]
  have HT := Lib.hid ht
  have YA := Lib.hid ha
  have YB := Lib.hid (neg_may hb)
  clear h ht ha hb
  generalize hw : ((w.alloc (.cells #[.bool a.neg, .slice A1 n1 c1, .int .i64 a.e] 24)).alloc (.cells #[.bool b.neg, .slice A2 n2 c2, .int .i64 b.e] 24)).alloc (.cells #[.bool false, .slice none 0 0, .int .i64 0] 24) = w1 at *
  obtain ⟨D1, D2, D3, b1, l1, l2⟩ := boxes3 w _ _ _ hw
  replace h1 := h1.below b1 (Nat.le_refl _)
  replace h2 := h2.below b1 (Nat.le_refl _)
  obtain ⟨⟨pD1, qD1, rD1⟩, uD1, vD1, xD1⟩ := boxD D1
  go_enter Tryd.func23, Tryd.ntmps23
  go_wp2_with fail
  try clear hw
  refine (rMay_ok w1 0 w.heap.size a.neg A1 n1 c1 _ a.e h1 (by omega) ma.out).mono ?_
  rintro e' w2 ⟨rfl, hB⟩
  clear pD1 qD1 rD1 uD1 vD1 xD1
  have lw2 : w1.heap.size ≤ w2.heap.size := hB.size
  replace h1 := h1.below hB (by omega)
  replace h2 := h2.below hB (by omega)
  replace D1 := (hB.block _ (by omega)).trans D1
  replace D2 := (hB.block _ (by omega)).trans D2
  replace D3 := (hB.block _ (by omega)).trans D3
  have c3 := b1.trans (hB.mono (by omega))
  clear hB
  obtain ⟨⟨pD2, qD2, rD2⟩, uD2, vD2, xD2⟩ := boxD D2
  go_wp2_with fail
  refine (rMay_ok w2 0 w.heap.size b.neg A2 n2 c2 _ b.e h2 (by omega) mb.out).mono ?_
  rintro e' w4 ⟨rfl, hB⟩
  clear pD2 qD2 rD2 uD2 vD2 xD2
  have lw4 : w2.heap.size ≤ w4.heap.size := hB.size
  replace h1 := h1.below hB (by omega)
  replace h2 := h2.below hB (by omega)
  replace D1 := (hB.block _ (by omega)).trans D1
  replace D2 := (hB.block _ (by omega)).trans D2
  replace D3 := (hB.block _ (by omega)).trans D3
  have c5 := c3.trans (hB.mono (by omega))
  clear hB
  go_wp2_with fail
  have kD : Keeps w4 w4.drew := fun _ _ => rfl
  have hB : Below w4.heap.size w4 w4.drew := (Below.refl _ _).drew
  refine region_E (Keeps w4) [8] (m := 10) (L := #[false, false, false, false, false, false, false, false, false, false]) (by kernel_rfl) (by rfl) (by rfl) ?_
  generalize w4.drew = w6 at *
  have lw6 : w4.heap.size ≤ w6.heap.size := hB.size
  have sv_D1 := D1
  have sv_D2 := D2
  have sv_D3 := D3
  replace h1 := h1.below hB (by omega)
  replace h2 := h2.below hB (by omega)
  replace D1 := (hB.block _ (by omega)).trans D1
  replace D2 := (hB.block _ (by omega)).trans D2
  replace D3 := (hB.block _ (by omega)).trans D3
  have hB0 := hB
  clear hB
  refine readE (i := 0) (L := #[true, false, false, false, false, false, false, false, false, false]) (v := .agg #[.bool a.neg, .slice A1 n1 c1, .int .i64 a.e]) rfl (by rfl) (by kernel_rfl) (by kernel_rfl) (by kernel_rfl) (fun _ _ _ h => h) (by assumption) (by rfl) ?hy0_1 ?rest0_1
  case hy0_1 =>
    intro w' h1
    obtain ⟨⟨k1, k2, k3⟩, _⟩ := boxD ((h1 _ (by omega)).trans sv_D1)
    go_simp
  try simp only [Act.put, List.setIfInBounds_toArray, List.set_cons_zero, List.set_cons_succ]
  refine readE (i := 1) (L := #[true, true, false, false, false, false, false, false, false, false]) (v := .agg #[.bool b.neg, .slice A2 n2 c2, .int .i64 b.e]) rfl (by rfl) (by kernel_rfl) (by kernel_rfl) (by kernel_rfl) (fun _ _ _ h => h) (by assumption) (by rfl) ?hy1_2 ?rest1_2
  case hy1_2 =>
    intro w' h1
    obtain ⟨⟨k1, k2, k3⟩, _⟩ := boxD ((h1 _ (by omega)).trans sv_D2)
    go_simp
  try simp only [Act.put, List.setIfInBounds_toArray, List.set_cons_zero, List.set_cons_succ]
  refine stepK2 (i := 2) (j := 7) (Li := #[true, true, true, false, false, false, false, false, false, false]) (Lj := #[true, true, false, false, false, false, false, true, false, false]) rfl rfl (by rfl) (by rfl) (by kernel_rfl) (by rfl) (by rfl) (fun K hK => ?o2_3) (fun K hK => ?o7_3)
  case o2_3 =>
    
    go_simp
    go_at_call 71
    refine (rMinus_any w6 b.neg A2 n2 c2 b.e (negD b).neg HT.out).mono ?_
    rintro e' w7 ⟨rfl, hB⟩
    have lw7 : w6.heap.size ≤ w7.heap.size := hB.size
    replace h1 := h1.below hB (by omega)
    replace h2 := h2.below hB (by omega)
    replace D1 := (hB.block _ (by omega)).trans D1
    replace D2 := (hB.block _ (by omega)).trans D2
    replace D3 := (hB.block _ (by omega)).trans D3
    have c8 := hB0.trans (hB.mono (by omega))
    clear hB
    refine hK _ _ ⟨fun _ _ p hp => c8.block p hp, ?_⟩
    clear hK K
    try simp only [Act.put, List.setIfInBounds_toArray, List.set_cons_zero, List.set_cons_succ]
    refine stepK2 (i := 3) (j := 7) (Li := #[true, true, true, true, false, false, false, false, false, false]) (Lj := #[true, true, true, false, false, false, false, true, false, false]) rfl rfl (by rfl) (by rfl) (by kernel_rfl) (by rfl) (by rfl) (fun K hK => ?o3_4) (fun K hK => ?o7_4)
    case o3_4 =>
      
      go_simp
      go_at_call 21
      refine (rAdd_dn w7 a (negD b) YA.out YB.out A1 A2 n1 c1 n2 c2 (h1.more (Nat.zero_le _) (by omega)) (h2.more (Nat.zero_le _) (by omega)) r code H.out).mono ?_
      rintro e' w9 ⟨P4, i4, d4, rfl, lc4, hB, IN4⟩
      have lw9 : w7.heap.size ≤ w9.heap.size := hB.size
      replace h1 := h1.below hB (by omega)
      replace h2 := h2.below hB (by omega)
      replace D1 := (hB.block _ (by omega)).trans D1
      replace D2 := (hB.block _ (by omega)).trans D2
      replace D3 := (hB.block _ (by omega)).trans D3
      have c10 := c8.trans (hB.mono (by omega))
      clear hB
      refine hK _ _ ⟨fun _ _ p hp => c10.block p hp, ?_⟩
      clear hK K
      try simp only [Act.put, List.setIfInBounds_toArray, List.set_cons_zero, List.set_cons_succ]
      refine pureE (i := 4) (L := #[true, true, true, true, true, false, false, false, false, false]) (v := ?_) rfl (by rfl) (by kernel_rfl) (by kernel_rfl) (by kernel_rfl) (fun _ _ _ h => h) (by rfl) ?hy44 ?rest44
      case hy44 => intro w; go_simp; (try with_reducible rfl)
      try simp only [Act.put, List.setIfInBounds_toArray, List.set_cons_zero, List.set_cons_succ]
      refine pureE (i := 5) (L := #[true, true, true, true, true, true, false, false, false, false]) (v := ?_) rfl (by rfl) (by kernel_rfl) (by kernel_rfl) (by kernel_rfl) (fun _ _ _ h => h) (by rfl) ?hy45 ?rest45
      case hy45 => intro w; go_simp; (try with_reducible rfl)
      try simp only [Act.put, List.setIfInBounds_toArray, List.set_cons_zero, List.set_cons_succ]
      refine pureE (i := 6) (L := #[true, true, true, true, true, true, true, false, false, false]) (v := ?_) rfl (by rfl) (by kernel_rfl) (by kernel_rfl) (by kernel_rfl) (fun _ _ _ h => h) (by rfl) ?hy46 ?rest46
      case hy46 => intro w; go_simp; (try with_reducible rfl)
      try simp only [Act.put, List.setIfInBounds_toArray, List.set_cons_zero, List.set_cons_succ]
      refine stepK (i := 7) (L := #[true, true, true, true, true, true, true, true, false, false]) rfl (by rfl) (by kernel_rfl) (by rfl) (fun K hK => ?_)
      go_simp
      have hB := (Below.refl w9.heap.size w9).alloc (Nat.le_refl _) (.cells #[.bool false, .slice none 0 0, .int .i64 0] 24)
      have D4 := heap_alloc_last w9 (.cells #[.bool false, .slice none 0 0, .int .i64 0] 24)
      have mw11 : w9.heap.size < (w9.alloc (.cells #[.bool false, .slice none 0 0, .int .i64 0] 24)).heap.size := by simp
      generalize hw : w9.alloc (.cells #[.bool false, .slice none 0 0, .int .i64 0] 24) = w11 at *
      have lw11 : w9.heap.size ≤ w11.heap.size := hB.size
      replace h1 := h1.below hB (by omega)
      replace h2 := h2.below hB (by omega)
      replace IN4 := IN4.below hB (by omega)
      replace D1 := (hB.block _ (by omega)).trans D1
      replace D2 := (hB.block _ (by omega)).trans D2
      replace D3 := (hB.block _ (by omega)).trans D3
      have c12 := c10.trans (hB.mono (by omega))
      clear hB
      try clear hw
      refine hK _ _ ⟨fun _ _ p hp => c12.block p hp, ?_⟩
      clear hK K
      try simp only [Act.put, List.setIfInBounds_toArray, List.set_cons_zero, List.set_cons_succ]
      refine stepK (i := 8) (L := #[true, true, true, true, true, true, true, true, true, false]) rfl (by rfl) (by kernel_rfl) (by rfl) (fun K hK => ?_)
      go_simp
      obtain ⟨⟨p1, p2, p3⟩, p4, p5, p6⟩ := boxD D4
      go_simp
      refine hK _ _ ⟨fun h => absurd h (by decide), ?_⟩
      clear hK K
      try simp only [Act.put, List.setIfInBounds_toArray, List.set_cons_zero, List.set_cons_succ]
      refine pureE (i := 9) (L := #[true, true, true, true, true, true, true, true, true, true]) (v := ?_) rfl (by rfl) (by kernel_rfl) (by kernel_rfl) (by kernel_rfl) (fun _ _ _ h => h) (by rfl) ?hy49 ?rest49
      case hy49 => intro w; go_simp; (try with_reducible rfl)
      try simp only [Act.put, List.setIfInBounds_toArray, List.set_cons_zero, List.set_cons_succ]
      refine doneE (by kernel_rfl) ?_ _
      clear p1 p2 p3 p4 p5 p6
      have q4 := box_put D4 (.bool r.neg) (.slice P4 i4 d4) (.int .i64 r.e)
      have d7 := below_put c12 (by omega : w4.heap.size ≤ w9.heap.size) (.bool r.neg) (.slice P4 i4 d4) (.int .i64 r.e)
      have J4 := ints_put IN4 (g := w9.heap.size) (by omega) (.bool r.neg) (.slice P4 i4 d4) (.int .i64 r.e)
      have s7 : w11.heap.size ≤ (((w11.setCell ⟨w9.heap.size, 0, none⟩ (.bool r.neg)).setCell ⟨w9.heap.size, 1, none⟩ (.slice P4 i4 d4)).setCell ⟨w9.heap.size, 2, none⟩ (.int .i64 r.e)).heap.size := by rw [size_put]; exact Nat.le_refl _
      generalize hw : ((w11.setCell ⟨w9.heap.size, 0, none⟩ (.bool r.neg)).setCell ⟨w9.heap.size, 1, none⟩ (.slice P4 i4 d4)).setCell ⟨w9.heap.size, 2, none⟩ (.int .i64 r.e) = w13 at *
      try clear hw
      have e8 := c5.trans (d7.mono (by omega))
      have X9 := (d7.block _ (by omega)).trans sv_D3
      obtain ⟨⟨p1, p2, p3⟩, p4, p5, p6⟩ := boxD q4
      obtain ⟨⟨z1, z2, z3⟩, z4, z5, z6⟩ := boxD X9
      go_wp2
      refine bodyPost_ret (v := .tuple #[.agg #[.bool r.neg, .slice P4 i4 d4, .int .i64 r.e], .int .i64 code]) (by simp [results, Tryd.results23, go_sem, z1, z2, z3]) rfl ⟨P4, i4, d4, rfl, lc4, ?_, ?_⟩
      · exact below_put e8 (by omega) _ _ _
      · exact (ints_put J4 (.inl (by omega)) _ _ _).more (by omega) (by rw [size_put]; omega)
    case o7_4 =>
      
      go_simp
      have hB := (Below.refl w7.heap.size w7).alloc (Nat.le_refl _) (.cells #[.bool false, .slice none 0 0, .int .i64 0] 24)
      have D4 := heap_alloc_last w7 (.cells #[.bool false, .slice none 0 0, .int .i64 0] 24)
      have mw14 : w7.heap.size < (w7.alloc (.cells #[.bool false, .slice none 0 0, .int .i64 0] 24)).heap.size := by simp
      generalize hw : w7.alloc (.cells #[.bool false, .slice none 0 0, .int .i64 0] 24) = w14 at *
      have lw14 : w7.heap.size ≤ w14.heap.size := hB.size
      replace h1 := h1.below hB (by omega)
      replace h2 := h2.below hB (by omega)
      replace D1 := (hB.block _ (by omega)).trans D1
      replace D2 := (hB.block _ (by omega)).trans D2
      replace D3 := (hB.block _ (by omega)).trans D3
      have c15 := c8.trans (hB.mono (by omega))
      clear hB
      try clear hw
      refine hK _ _ ⟨fun _ _ p hp => c15.block p hp, ?_⟩
      clear hK K
      try simp only [Act.put, List.setIfInBounds_toArray, List.set_cons_zero, List.set_cons_succ]
      refine stepK (i := 3) (L := #[true, true, true, true, false, false, false, true, false, false]) rfl (by rfl) (by kernel_rfl) (by rfl) (fun K hK => ?_)
      go_simp
      go_at_call 21
      refine (rAdd_dn w14 a (negD b) YA.out YB.out A1 A2 n1 c1 n2 c2 (h1.more (Nat.zero_le _) (by omega)) (h2.more (Nat.zero_le _) (by omega)) r code H.out).mono ?_
      rintro e' w16 ⟨P4, i4, d4, rfl, lc4, hB, IN4⟩
      have lw16 : w14.heap.size ≤ w16.heap.size := hB.size
      replace h1 := h1.below hB (by omega)
      replace h2 := h2.below hB (by omega)
      replace D1 := (hB.block _ (by omega)).trans D1
      replace D2 := (hB.block _ (by omega)).trans D2
      replace D3 := (hB.block _ (by omega)).trans D3
      replace D4 := (hB.block _ (by omega)).trans D4
      have c17 := c15.trans (hB.mono (by omega))
      clear hB
      refine hK _ _ ⟨fun _ _ p hp => c17.block p hp, ?_⟩
      clear hK K
      try simp only [Act.put, List.setIfInBounds_toArray, List.set_cons_zero, List.set_cons_succ]
      refine pureE (i := 4) (L := #[true, true, true, true, true, false, false, true, false, false]) (v := ?_) rfl (by rfl) (by kernel_rfl) (by kernel_rfl) (by kernel_rfl) (fun _ _ _ h => h) (by rfl) ?hy51 ?rest51
      case hy51 => intro w; go_simp; (try with_reducible rfl)
      try simp only [Act.put, List.setIfInBounds_toArray, List.set_cons_zero, List.set_cons_succ]
      refine pureE (i := 5) (L := #[true, true, true, true, true, true, false, true, false, false]) (v := ?_) rfl (by rfl) (by kernel_rfl) (by kernel_rfl) (by kernel_rfl) (fun _ _ _ h => h) (by rfl) ?hy52 ?rest52
      case hy52 => intro w; go_simp; (try with_reducible rfl)
      try simp only [Act.put, List.setIfInBounds_toArray, List.set_cons_zero, List.set_cons_succ]
      refine pureE (i := 6) (L := #[true, true, true, true, true, true, true, true, false, false]) (v := ?_) rfl (by rfl) (by kernel_rfl) (by kernel_rfl) (by kernel_rfl) (fun _ _ _ h => h) (by rfl) ?hy53 ?rest53
      case hy53 => intro w; go_simp; (try with_reducible rfl)
      try simp only [Act.put, List.setIfInBounds_toArray, List.set_cons_zero, List.set_cons_succ]
      refine stepK (i := 8) (L := #[true, true, true, true, true, true, true, true, true, false]) rfl (by rfl) (by kernel_rfl) (by rfl) (fun K hK => ?_)
      go_simp
      obtain ⟨⟨p1, p2, p3⟩, p4, p5, p6⟩ := boxD D4
      go_simp
      refine hK _ _ ⟨fun h => absurd h (by decide), ?_⟩
      clear hK K
      try simp only [Act.put, List.setIfInBounds_toArray, List.set_cons_zero, List.set_cons_succ]
      refine pureE (i := 9) (L := #[true, true, true, true, true, true, true, true, true, true]) (v := ?_) rfl (by rfl) (by kernel_rfl) (by kernel_rfl) (by kernel_rfl) (fun _ _ _ h => h) (by rfl) ?hy55 ?rest55
      case hy55 => intro w; go_simp; (try with_reducible rfl)
      try simp only [Act.put, List.setIfInBounds_toArray, List.set_cons_zero, List.set_cons_succ]
      refine doneE (by kernel_rfl) ?_ _
      clear p1 p2 p3 p4 p5 p6
      have q4 := box_put D4 (.bool r.neg) (.slice P4 i4 d4) (.int .i64 r.e)
      have d7 := below_put c17 (by omega : w4.heap.size ≤ w7.heap.size) (.bool r.neg) (.slice P4 i4 d4) (.int .i64 r.e)
      have J4 := ints_put IN4 (g := w7.heap.size) (by omega) (.bool r.neg) (.slice P4 i4 d4) (.int .i64 r.e)
      have s7 : w16.heap.size ≤ (((w16.setCell ⟨w7.heap.size, 0, none⟩ (.bool r.neg)).setCell ⟨w7.heap.size, 1, none⟩ (.slice P4 i4 d4)).setCell ⟨w7.heap.size, 2, none⟩ (.int .i64 r.e)).heap.size := by rw [size_put]; exact Nat.le_refl _
      generalize hw : ((w16.setCell ⟨w7.heap.size, 0, none⟩ (.bool r.neg)).setCell ⟨w7.heap.size, 1, none⟩ (.slice P4 i4 d4)).setCell ⟨w7.heap.size, 2, none⟩ (.int .i64 r.e) = w18 at *
      try clear hw
      have e8 := c5.trans (d7.mono (by omega))
      have X9 := (d7.block _ (by omega)).trans sv_D3
      obtain ⟨⟨p1, p2, p3⟩, p4, p5, p6⟩ := boxD q4
      obtain ⟨⟨z1, z2, z3⟩, z4, z5, z6⟩ := boxD X9
      go_wp2
      refine bodyPost_ret (v := .tuple #[.agg #[.bool r.neg, .slice P4 i4 d4, .int .i64 r.e], .int .i64 code]) (by simp [results, Tryd.results23, go_sem, z1, z2, z3]) rfl ⟨P4, i4, d4, rfl, lc4, ?_, ?_⟩
      · exact below_put e8 (by omega) _ _ _
      · exact (ints_put J4 (.inl (by omega)) _ _ _).more (by omega) (by rw [size_put]; omega)
  case o7_3 =>
    
    go_simp
    have hB := (Below.refl w6.heap.size w6).alloc (Nat.le_refl _) (.cells #[.bool false, .slice none 0 0, .int .i64 0] 24)
    have D4 := heap_alloc_last w6 (.cells #[.bool false, .slice none 0 0, .int .i64 0] 24)
    have mw19 : w6.heap.size < (w6.alloc (.cells #[.bool false, .slice none 0 0, .int .i64 0] 24)).heap.size := by simp
    generalize hw : w6.alloc (.cells #[.bool false, .slice none 0 0, .int .i64 0] 24) = w19 at *
    have lw19 : w6.heap.size ≤ w19.heap.size := hB.size
    replace h1 := h1.below hB (by omega)
    replace h2 := h2.below hB (by omega)
    replace D1 := (hB.block _ (by omega)).trans D1
    replace D2 := (hB.block _ (by omega)).trans D2
    replace D3 := (hB.block _ (by omega)).trans D3
    have c20 := hB0.trans (hB.mono (by omega))
    clear hB
    try clear hw
    refine hK _ _ ⟨fun _ _ p hp => c20.block p hp, ?_⟩
    clear hK K
    try simp only [Act.put, List.setIfInBounds_toArray, List.set_cons_zero, List.set_cons_succ]
    refine stepK (i := 2) (L := #[true, true, true, false, false, false, false, true, false, false]) rfl (by rfl) (by kernel_rfl) (by rfl) (fun K hK => ?_)
    go_simp
    go_at_call 71
    refine (rMinus_any w19 b.neg A2 n2 c2 b.e (negD b).neg HT.out).mono ?_
    rintro e' w21 ⟨rfl, hB⟩
    have lw21 : w19.heap.size ≤ w21.heap.size := hB.size
    replace h1 := h1.below hB (by omega)
    replace h2 := h2.below hB (by omega)
    replace D1 := (hB.block _ (by omega)).trans D1
    replace D2 := (hB.block _ (by omega)).trans D2
    replace D3 := (hB.block _ (by omega)).trans D3
    replace D4 := (hB.block _ (by omega)).trans D4
    have c22 := c20.trans (hB.mono (by omega))
    clear hB
    refine hK _ _ ⟨fun _ _ p hp => c22.block p hp, ?_⟩
    clear hK K
    try simp only [Act.put, List.setIfInBounds_toArray, List.set_cons_zero, List.set_cons_succ]
    refine stepK (i := 3) (L := #[true, true, true, true, false, false, false, true, false, false]) rfl (by rfl) (by kernel_rfl) (by rfl) (fun K hK => ?_)
    go_simp
    go_at_call 21
    refine (rAdd_dn w21 a (negD b) YA.out YB.out A1 A2 n1 c1 n2 c2 (h1.more (Nat.zero_le _) (by omega)) (h2.more (Nat.zero_le _) (by omega)) r code H.out).mono ?_
    rintro e' w23 ⟨P4, i4, d4, rfl, lc4, hB, IN4⟩
    have lw23 : w21.heap.size ≤ w23.heap.size := hB.size
    replace h1 := h1.below hB (by omega)
    replace h2 := h2.below hB (by omega)
    replace D1 := (hB.block _ (by omega)).trans D1
    replace D2 := (hB.block _ (by omega)).trans D2
    replace D3 := (hB.block _ (by omega)).trans D3
    replace D4 := (hB.block _ (by omega)).trans D4
    have c24 := c22.trans (hB.mono (by omega))
    clear hB
    refine hK _ _ ⟨fun _ _ p hp => c24.block p hp, ?_⟩
    clear hK K
    try simp only [Act.put, List.setIfInBounds_toArray, List.set_cons_zero, List.set_cons_succ]
    refine pureE (i := 4) (L := #[true, true, true, true, true, false, false, true, false, false]) (v := ?_) rfl (by rfl) (by kernel_rfl) (by kernel_rfl) (by kernel_rfl) (fun _ _ _ h => h) (by rfl) ?hy58 ?rest58
    case hy58 => intro w; go_simp; (try with_reducible rfl)
    try simp only [Act.put, List.setIfInBounds_toArray, List.set_cons_zero, List.set_cons_succ]
    refine pureE (i := 5) (L := #[true, true, true, true, true, true, false, true, false, false]) (v := ?_) rfl (by rfl) (by kernel_rfl) (by kernel_rfl) (by kernel_rfl) (fun _ _ _ h => h) (by rfl) ?hy59 ?rest59
    case hy59 => intro w; go_simp; (try with_reducible rfl)
    try simp only [Act.put, List.setIfInBounds_toArray, List.set_cons_zero, List.set_cons_succ]
    refine pureE (i := 6) (L := #[true, true, true, true, true, true, true, true, false, false]) (v := ?_) rfl (by rfl) (by kernel_rfl) (by kernel_rfl) (by kernel_rfl) (fun _ _ _ h => h) (by rfl) ?hy60 ?rest60
    case hy60 => intro w; go_simp; (try with_reducible rfl)
    try simp only [Act.put, List.setIfInBounds_toArray, List.set_cons_zero, List.set_cons_succ]
    refine stepK (i := 8) (L := #[true, true, true, true, true, true, true, true, true, false]) rfl (by rfl) (by kernel_rfl) (by rfl) (fun K hK => ?_)
    go_simp
    obtain ⟨⟨p1, p2, p3⟩, p4, p5, p6⟩ := boxD D4
    go_simp
    refine hK _ _ ⟨fun h => absurd h (by decide), ?_⟩
    clear hK K
    try simp only [Act.put, List.setIfInBounds_toArray, List.set_cons_zero, List.set_cons_succ]
    refine pureE (i := 9) (L := #[true, true, true, true, true, true, true, true, true, true]) (v := ?_) rfl (by rfl) (by kernel_rfl) (by kernel_rfl) (by kernel_rfl) (fun _ _ _ h => h) (by rfl) ?hy62 ?rest62
    case hy62 => intro w; go_simp; (try with_reducible rfl)
    try simp only [Act.put, List.setIfInBounds_toArray, List.set_cons_zero, List.set_cons_succ]
    refine doneE (by kernel_rfl) ?_ _
    clear p1 p2 p3 p4 p5 p6
    have q4 := box_put D4 (.bool r.neg) (.slice P4 i4 d4) (.int .i64 r.e)
    have d7 := below_put c24 (by omega : w4.heap.size ≤ w6.heap.size) (.bool r.neg) (.slice P4 i4 d4) (.int .i64 r.e)
    have J4 := ints_put IN4 (g := w6.heap.size) (by omega) (.bool r.neg) (.slice P4 i4 d4) (.int .i64 r.e)
    have s7 : w23.heap.size ≤ (((w23.setCell ⟨w6.heap.size, 0, none⟩ (.bool r.neg)).setCell ⟨w6.heap.size, 1, none⟩ (.slice P4 i4 d4)).setCell ⟨w6.heap.size, 2, none⟩ (.int .i64 r.e)).heap.size := by rw [size_put]; exact Nat.le_refl _
    generalize hw : ((w23.setCell ⟨w6.heap.size, 0, none⟩ (.bool r.neg)).setCell ⟨w6.heap.size, 1, none⟩ (.slice P4 i4 d4)).setCell ⟨w6.heap.size, 2, none⟩ (.int .i64 r.e) = w25 at *
    try clear hw
    have e8 := c5.trans (d7.mono (by omega))
    have X9 := (d7.block _ (by omega)).trans sv_D3
    obtain ⟨⟨p1, p2, p3⟩, p4, p5, p6⟩ := boxD q4
    obtain ⟨⟨z1, z2, z3⟩, z4, z5, z6⟩ := boxD X9
    go_wp2
    refine bodyPost_ret (v := .tuple #[.agg #[.bool r.neg, .slice P4 i4 d4, .int .i64 r.e], .int .i64 code]) (by simp [results, Tryd.results23, go_sem, z1, z2, z3]) rfl ⟨P4, i4, d4, rfl, lc4, ?_, ?_⟩
    · exact below_put e8 (by omega) _ _ _
    · exact (ints_put J4 (.inl (by omega)) _ _ _).more (by omega) (by rw [size_put]; omega)
theorem rSub_all (w : World) (s1 s2 : Bool) (A1 A2 : Option Addr) (n1 c1 n2 c2 : Nat) (xs1 xs2 : List Int) (e1 e2 : Int) (h1 : Ints w 0 w.heap.size .u32 A1 n1 xs1) (h2 : Ints w 0 w.heap.size .u32 A2 n2 xs2) (r : Dn) (code : Int) (h : subX s1 xs1 e1 s2 xs2 e2 = (r, code)) :
    Calls Tryd.prog 23 #[.agg #[.bool s1, .slice A1 n1 c1, .int .i64 e1], .agg #[.bool s2, .slice A2 n2 c2, .int .i64 e2]] w (Formed w r code) := by
  unfold subX at h
  split at h
  · rename_i hm
    obtain ⟨y1, k1, k2⟩ := dn_ok (dig_ints h1) hm.1
    obtain ⟨y2, k3, k4⟩ := dn_ok (dig_ints h2) hm.2
    have := rSub_dn w (dn s1 xs1 e1) (dn s2 xs2 e2) y1 y2 A1 A2 n1 c1 n2 c2 (by rw [k1]; exact h1) (by rw [k3]; exact h2) r code h
    rw [k2, k4] at this
    exact this
  · rename_i hm
    injection h with h3 h4
    subst h3 h4
    exact (rSub_bad w s1 s2 A1 A2 n1 c1 n2 c2 xs1 xs2 e1 e2 h1 h2 (Classical.not_and_iff_not_or_not.1 hm)).mono fun _ _ k => bad_formed k
end Dy
end Go.Proofs.YtlbkepiflhchdaaDoor
