/- The reference's Minus and Add: walks (printed by a program of mine). -/
/- A region that draws its order, in the round of a range over a function, under the wide fence: the plain walk's orders serve. No program in sight. -/
/- RegionE's way through a region that draws its order inside the round of a range over a function. No program in sight. -/
import Derived.Test.YtlbkepiflhchdaaDoorBm13
import Derived.Deep.DeepCutAuto
import Derived.Deep.CutRange
import Derived.RangeFuncNested
import Derived.RangeFuncBound
import Derived.RangeFuncBox
import Derived.RangeFuncCalls
import Derived.RangeFuncLeaves
import Derived.Shelf.Abstract
import Derived.Shelf.RegionOpen
import Derived.OwnWalkIn
import Derived.TacticsInMore
import Derived.LoopNIn
import Derived.LoopIn
import Derived.RegionIn
import Derived.Deep.RegionHeld3
import Derived.Test.YtlbkepiflhchdaaDoorBm01
namespace Go.Proofs.YtlbkepiflhchdaaDoor
open Go.RowKit
namespace Dy
open Dp
theorem boxes2 (w : World) (o1 o2 : Obj) {w1 : World} (hw : (w.alloc o1).alloc o2 = w1) : w1.heap[w.heap.size]? = some o1 ∧ w1.heap[w.heap.size + 1]? = some o2 ∧ Below w.heap.size w w1 ∧ w.heap.size + 2 ≤ w1.heap.size ∧ w1.heap.size ≤ w.heap.size + 2 := by
  subst hw
  exact ⟨by rw [Below.heap_alloc _ _ _ (by simp)]; exact heap_alloc_last _ _, heap_alloc2_new _ _ _, ((Below.refl _ w).alloc (Nat.le_refl _) _).alloc (by simp) _, by simp, by simp⟩
theorem boxes3 (w : World) (o1 o2 o3 : Obj) {w1 : World} (hw : ((w.alloc o1).alloc o2).alloc o3 = w1) : w1.heap[w.heap.size]? = some o1 ∧ w1.heap[w.heap.size + 1]? = some o2 ∧ w1.heap[w.heap.size + 1 + 1]? = some o3 ∧ Below w.heap.size w w1 ∧ w.heap.size + 3 ≤ w1.heap.size ∧ w1.heap.size ≤ w.heap.size + 3 := by
  obtain ⟨h1, h2, h3, h4, h5⟩ := boxes2 w o1 o2 rfl
  subst hw
  refine ⟨(Below.heap_alloc _ _ _ (by omega)).trans h1, (Below.heap_alloc _ _ _ (by omega)).trans h2, ?_, h3.alloc (by omega) _, by simp, by simp⟩
  have e : w.heap.size + 1 + 1 = ((w.alloc o1).alloc o2).heap.size := by omega
  rw [e]
  exact heap_alloc_last _ _
set_option maxHeartbeats 800000 in
set_option maxRecDepth 100000 in
/-- headcountref02.Minus. -/
theorem rMinus_any (w : World) (s : Bool) (A : Option Addr) (n c : Nat) (ex : Int) (t : Bool) (ht : (if n = 0 then s else !s) = t) :
    Calls Tryd.prog 71 #[.agg #[.bool s, .slice A n c, .int .i64 ex]] w fun e w' => e = .returned (.agg #[.bool t, .slice A n c, .int .i64 ex]) ∧ Below w.heap.size w w' := by
  generalize hw : (w.alloc (.cells #[.bool s, .slice A n c, .int .i64 ex] 24)).alloc (.cells #[.bool false, .slice none 0 0, .int .i64 0] 24) = w1 at *
  obtain ⟨X1, X2, b1, l1, l2⟩ := boxes2 w _ _ hw
  obtain ⟨⟨y1, y2, y3⟩, y4, y5, y6⟩ := boxD X1
  obtain ⟨⟨z1, z2, z3⟩, z4, z5, z6⟩ := boxD X2
  by_cases h0 : n = 0
  · subst h0
    rw [if_pos rfl] at ht
    subst ht
    go_enter Tryd.func71, Tryd.ntmps71
    go_wp2
    exact bodyPost_ret (v := .agg #[.bool s, .slice A 0 c, .int .i64 ex]) (by simp [results, Tryd.results71, go_sem, z1, z2, z3]) rfl ⟨rfl, below_put b1 (by omega) _ _ _⟩
  · rw [if_neg h0] at ht
    subst ht
    have hn : 0 < n := by omega
    go_enter Tryd.func71, Tryd.ntmps71
    go_wp2
    exact bodyPost_ret (v := .agg #[.bool !s, .slice A n c, .int .i64 ex]) (by simp [results, Tryd.results71, go_sem, z1, z2, z3]) rfl ⟨rfl, below_put (b1.setCell (Nat.le_refl _) _) (by omega) _ _ _⟩
theorem shift_len {a : Dn} (ha : a.May) {K : Nat} (hK : K ≤ 1024) {L : Nat} (hL : L = 2400) : a.m * 2 ^ (K - a.e) < 2 ^ L := by
  have h1 := ha.1
  have h3 : a.m * 2 ^ (K - a.e) < capD * 2 ^ (K - a.e) := Nat.mul_lt_mul_of_pos_right h1 (Nat.pow_pos (by decide))
  refine Nat.lt_of_lt_of_le h3 ?_
  rw [capD_eq, ← Nat.pow_add]
  exact Nat.pow_le_pow_right (by decide) (by rw [capE_eq]; omega)
theorem plus_len {s t s' : Bool} {x y v : Nat} (h : plusS s x t y = (s', v)) : v ≤ x + y := by
  rcases plus_cases s t x y s' v h with ⟨_, _, h⟩ | ⟨_, _, _, _, h⟩ | ⟨_, _, _, _, h⟩ | ⟨_, _, _, _, h⟩ <;> omega
set_option maxHeartbeats 12800000 in
set_option maxRecDepth 100000 in
/-- headcountref02.Add, of two that may be. -/
theorem rAdd_dn (w : World) (a b : Dn) (ha : a.May) (hb : b.May) (A1 A2 : Option Addr) (n1 c1 n2 c2 : Nat) (h1 : Ints w 0 w.heap.size .u32 A1 n1 (canon 4294967296 a.m)) (h2 : Ints w 0 w.heap.size .u32 A2 n2 (canon 4294967296 b.m)) (r : Dn) (code : Int) (h : addD a b = (r, code)) :
    Calls Tryd.prog 21 #[.agg #[.bool a.neg, .slice A1 n1 c1, .int .i64 a.e], .agg #[.bool b.neg, .slice A2 n2 c2, .int .i64 b.e]] w (Formed w r code) := by
  have hn1 := ints_may h1 ha
  have hn2 := ints_may h2 hb
  have ea : a.e ≤ 1024 := ha.2.1
  have eb : b.e ≤ 1024 := hb.2.1
  have ma := Lib.hid (dn_may ha)
  have mb := Lib.hid (dn_may hb)
  have H := Lib.hid h
  clear h
  obtain ⟨KX, hK⟩ : ∃ KX, max a.e b.e = KX := ⟨_, rfl⟩
  have kl : KX ≤ 1024 := by omega
  have ka : a.e ≤ KX := by omega
  have kb : b.e ≤ KX := by omega
  obtain ⟨x, hx⟩ : ∃ x, 2 ^ (KX - a.e) * a.m = x := ⟨_, rfl⟩
  obtain ⟨y, hy⟩ : ∃ y, 2 ^ (KX - b.e) * b.m = y := ⟨_, rfl⟩
  obtain ⟨s, v, hp⟩ : ∃ s v, plusS a.neg x b.neg y = (s, v) := ⟨_, _, rfl⟩
  have hf : formed s v KX = (r, code) := by
    have := H.out
    unfold addD at this
    rw [hK, Nat.mul_comm a.m, Nat.mul_comm b.m, hx, hy, hp] at this
    exact this
  obtain ⟨L, hL⟩ : ∃ L, L = 2400 := ⟨_, rfl⟩
  have hxl : x < 2 ^ L := by rw [← hx, Nat.mul_comm]; exact shift_len ha kl hL
  have hyl : y < 2 ^ L := by rw [← hy, Nat.mul_comm]; exact shift_len hb kl hL
  have hvl : (canon 2 v).length ≤ 2401 := by
    have h5 : v < 2 ^ (L + 1) := by
      have := plus_len hp
      rw [Nat.pow_succ]
      omega
    have := canon_len (by decide) h5
    omega
  have HX := Lib.hid hx
  have HY := Lib.hid hy
  have HP := Lib.hid hp
  have HF := Lib.hid hf
  have HVL := Lib.hid hvl
  clear hx hy hp hf hxl hyl hvl hL H ha hb
  generalize hw : ((w.alloc (.cells #[.bool a.neg, .slice A1 n1 c1, .int .i64 a.e] 24)).alloc (.cells #[.bool b.neg, .slice A2 n2 c2, .int .i64 b.e] 24)).alloc (.cells #[.bool false, .slice none 0 0, .int .i64 0] 24) = w1 at *
  obtain ⟨D1, D2, D3, b1, l1, l2⟩ := boxes3 w _ _ _ hw
  replace h1 := h1.below b1 (Nat.le_refl _)
  replace h2 := h2.below b1 (Nat.le_refl _)
  obtain ⟨⟨pD1, qD1, rD1⟩, uD1, vD1, xD1⟩ := boxD D1
  go_enter Tryd.func21, Tryd.ntmps21
  go_wp2_with fail
  try clear hw
  refine (rMay_ok w1 0 w.heap.size a.neg A1 n1 c1 _ a.e h1 (by omega) ma.out).mono ?_
  rintro e' w2 ⟨rfl, hB⟩
  clear pD1 qD1 rD1 uD1 vD1 xD1
  have lw2 : w1.heap.size ≤ w2.heap.size := hB.size
  replace h1 := h1.below hB (by omega)
  replace h2 := h2.below hB (by omega)
  replace D1 := (hB.block _ (by omega)).trans D1
  replace D2 := (hB.block _ (by omega)).trans D2
  replace D3 := (hB.block _ (by omega)).trans D3
  have c3 := b1.trans (hB.mono (by omega))
  clear hB
  obtain ⟨⟨pD2, qD2, rD2⟩, uD2, vD2, xD2⟩ := boxD D2
  go_wp2_with fail
  refine (rMay_ok w2 0 w.heap.size b.neg A2 n2 c2 _ b.e h2 (by omega) mb.out).mono ?_
  rintro e' w4 ⟨rfl, hB⟩
  clear pD2 qD2 rD2 uD2 vD2 xD2
  have lw4 : w2.heap.size ≤ w4.heap.size := hB.size
  replace h1 := h1.below hB (by omega)
  replace h2 := h2.below hB (by omega)
  replace D1 := (hB.block _ (by omega)).trans D1
  replace D2 := (hB.block _ (by omega)).trans D2
  replace D3 := (hB.block _ (by omega)).trans D3
  have c5 := c3.trans (hB.mono (by omega))
  clear hB
  obtain ⟨⟨pD1, qD1, rD1⟩, uD1, vD1, xD1⟩ := boxD D1
  obtain ⟨⟨pD2, qD2, rD2⟩, uD2, vD2, xD2⟩ := boxD D2
  have hkk := Lib.hid hK
  clear hK
  go_upto_region 3 with fail
  go_cut [6] from 16 to 23 (fun s6 wx => s6 = .int .i64 (KX : Int) ∧ w4 = wx)
  case first =>
    go_wp2_with fail
    all_goals
      go_meet
      exact ⟨by have := hkk.out; congr 1; omega, rfl⟩
  case rest =>
    obtain ⟨rfl, rfl⟩ := hcut
    clear pD1 qD1 rD1 uD1 vD1 xD1 pD2 qD2 rD2 uD2 vD2 xD2
    go_wp2_with fail
    have kD : Keeps w4 w4.drew := fun _ _ => rfl
    have hB : Below w4.heap.size w4 w4.drew := (Below.refl _ _).drew
    refine region_E (Keeps w4) [13] (m := 15) (L := #[false, false, false, false, false, false, false, false, false, false, false, false, false, false, false]) (by kernel_rfl) (by rfl) (by rfl) ?_
    generalize w4.drew = w6 at *
    have lw6 : w4.heap.size ≤ w6.heap.size := hB.size
    have sv_D1 := D1
    have sv_D2 := D2
    have sv_D3 := D3
    replace h1 := h1.below hB (by omega)
    replace h2 := h2.below hB (by omega)
    replace D1 := (hB.block _ (by omega)).trans D1
    replace D2 := (hB.block _ (by omega)).trans D2
    replace D3 := (hB.block _ (by omega)).trans D3
    have hB0 := hB
    clear hB
    refine pureE (i := 1) (L := #[false, true, false, false, false, false, false, false, false, false, false, false, false, false, false]) (v := ?_) rfl (by rfl) (by kernel_rfl) (by kernel_rfl) (by kernel_rfl) (fun _ _ _ h => h) (by rfl) ?hy1 ?rest1
    case hy1 => intro w; go_simp; (try with_reducible rfl)
    try simp only [Act.put, List.setIfInBounds_toArray, List.set_cons_zero, List.set_cons_succ]
    refine pureE (i := 4) (L := #[false, true, false, false, true, false, false, false, false, false, false, false, false, false, false]) (v := ?_) rfl (by rfl) (by kernel_rfl) (by kernel_rfl) (by kernel_rfl) (fun _ _ _ h => h) (by rfl) ?hy2 ?rest2
    case hy2 => intro w; go_simp; (try with_reducible rfl)
    try simp only [Act.put, List.setIfInBounds_toArray, List.set_cons_zero, List.set_cons_succ]
    refine pureE (i := 7) (L := #[false, true, false, false, true, false, false, true, false, false, false, false, false, false, false]) (v := ?_) rfl (by rfl) (by kernel_rfl) (by kernel_rfl) (by kernel_rfl) (fun _ _ _ h => h) (by rfl) ?hy3 ?rest3
    case hy3 => intro w; go_simp; (try with_reducible rfl)
    try simp only [Act.put, List.setIfInBounds_toArray, List.set_cons_zero, List.set_cons_succ]
    refine readE (i := 0) (L := #[true, true, false, false, true, false, false, true, false, false, false, false, false, false, false]) (v := .agg #[.bool a.neg, .slice A1 n1 c1, .int .i64 a.e]) rfl (by rfl) (by kernel_rfl) (by kernel_rfl) (by kernel_rfl) (fun _ _ _ h => h) (by assumption) (by rfl) ?hy0_1 ?rest0_1
    case hy0_1 =>
      intro w' h1
      obtain ⟨⟨k1, k2, k3⟩, _⟩ := boxD ((h1 _ (by omega)).trans sv_D1)
      go_simp
    try simp only [Act.put, List.setIfInBounds_toArray, List.set_cons_zero, List.set_cons_succ]
    refine readE (i := 3) (L := #[true, true, false, true, true, false, false, true, false, false, false, false, false, false, false]) (v := .agg #[.bool b.neg, .slice A2 n2 c2, .int .i64 b.e]) rfl (by rfl) (by kernel_rfl) (by kernel_rfl) (by kernel_rfl) (fun _ _ _ h => h) (by assumption) (by rfl) ?hy3_2 ?rest3_2
    case hy3_2 =>
      intro w' h1
      obtain ⟨⟨k1, k2, k3⟩, _⟩ := boxD ((h1 _ (by omega)).trans sv_D2)
      go_simp
    try simp only [Act.put, List.setIfInBounds_toArray, List.set_cons_zero, List.set_cons_succ]
    refine stepK2 (i := 2) (j := 12) (Li := #[true, true, true, true, true, false, false, true, false, false, false, false, false, false, false]) (Lj := #[true, true, false, true, true, false, false, true, false, false, false, false, true, false, false]) rfl rfl (by rfl) (by rfl) (by kernel_rfl) (by rfl) (by rfl) (fun K hK => ?o2_3) (fun K hK => ?o12_3)
    case o2_3 =>
      
      go_simp
      go_at_call 69
      refine (In_any w6 a.neg a.m a.e A1 n1 c1 (h1.more (Nat.zero_le _) (by omega)) hn1 KX ka (by omega) x HX.out KX rfl).mono ?_
      rintro e' w7 ⟨P1, i1, d1, rfl, lc1, ln1, hB, IN1⟩
      have lw7 : w6.heap.size ≤ w7.heap.size := hB.size
      replace h1 := h1.below hB (by omega)
      replace h2 := h2.below hB (by omega)
      replace D1 := (hB.block _ (by omega)).trans D1
      replace D2 := (hB.block _ (by omega)).trans D2
      replace D3 := (hB.block _ (by omega)).trans D3
      have c8 := hB0.trans (hB.mono (by omega))
      clear hB
      refine hK _ _ ⟨fun _ _ p hp => c8.block p hp, ?_⟩
      clear hK K
      try simp only [Act.put, List.setIfInBounds_toArray, List.set_cons_zero, List.set_cons_succ]
      refine stepK2 (i := 5) (j := 12) (Li := #[true, true, true, true, true, true, false, true, false, false, false, false, false, false, false]) (Lj := #[true, true, true, true, true, false, false, true, false, false, false, false, true, false, false]) rfl rfl (by rfl) (by rfl) (by kernel_rfl) (by rfl) (by rfl) (fun K hK => ?o5_4) (fun K hK => ?o12_4)
      case o5_4 =>
        
        go_simp
        go_at_call 69
        refine (In_any w7 b.neg b.m b.e A2 n2 c2 (h2.more (Nat.zero_le _) (by omega)) hn2 KX kb (by omega) y HY.out KX rfl).mono ?_
        rintro e' w9 ⟨P2, i2, d2, rfl, lc2, ln2, hB, IN2⟩
        have lw9 : w7.heap.size ≤ w9.heap.size := hB.size
        replace h1 := h1.below hB (by omega)
        replace h2 := h2.below hB (by omega)
        replace IN1 := IN1.below hB (by omega)
        replace D1 := (hB.block _ (by omega)).trans D1
        replace D2 := (hB.block _ (by omega)).trans D2
        replace D3 := (hB.block _ (by omega)).trans D3
        have c10 := c8.trans (hB.mono (by omega))
        clear hB
        refine hK _ _ ⟨fun _ _ p hp => c10.block p hp, ?_⟩
        clear hK K
        try simp only [Act.put, List.setIfInBounds_toArray, List.set_cons_zero, List.set_cons_succ]
        refine stepK2 (i := 6) (j := 12) (Li := #[true, true, true, true, true, true, true, true, false, false, false, false, false, false, false]) (Lj := #[true, true, true, true, true, true, false, true, false, false, false, false, true, false, false]) rfl rfl (by rfl) (by rfl) (by kernel_rfl) (by rfl) (by rfl) (fun K hK => ?o6_5) (fun K hK => ?o12_5)
        case o6_5 =>
          
          go_simp
          go_at_call 68
          refine (rPlus_any w9 a.neg b.neg x y P1 i1 d1 P2 i2 d2 (IN1.more (Nat.zero_le _) (by omega)) (IN2.more (Nat.zero_le _) (by omega)) ln1 ln2 s v HP.out).mono ?_
          rintro e' w11 ⟨P3, i3, d3, rfl, lc3, hB, IN3⟩
          have lw11 : w9.heap.size ≤ w11.heap.size := hB.size
          replace h1 := h1.below hB (by omega)
          replace h2 := h2.below hB (by omega)
          replace IN1 := IN1.below hB (by omega)
          replace IN2 := IN2.below hB (by omega)
          replace D1 := (hB.block _ (by omega)).trans D1
          replace D2 := (hB.block _ (by omega)).trans D2
          replace D3 := (hB.block _ (by omega)).trans D3
          have c12 := c10.trans (hB.mono (by omega))
          clear hB
          have hi3 : i3 ≤ 2401 := by have := IN3.len; have := HVL.out; omega
          refine hK _ _ ⟨fun _ _ p hp => c12.block p hp, ?_⟩
          clear hK K
          try simp only [Act.put, List.setIfInBounds_toArray, List.set_cons_zero, List.set_cons_succ]
          refine stepK2 (i := 8) (j := 12) (Li := #[true, true, true, true, true, true, true, true, true, false, false, false, false, false, false]) (Lj := #[true, true, true, true, true, true, true, true, false, false, false, false, true, false, false]) rfl rfl (by rfl) (by rfl) (by kernel_rfl) (by rfl) (by rfl) (fun K hK => ?o8_6) (fun K hK => ?o12_6)
          case o8_6 =>
            
            go_simp
            go_at_call 67
            refine (rFormed_any w11 s P3 i3 d3 _ (IN3.more (Nat.zero_le _) (by omega)) dig2 lc3 (by omega) KX (by omega) KX rfl v num2 r code HF.out).mono ?_
            rintro e' w13 ⟨P4, i4, d4, rfl, lc4, hB, IN4⟩
            have lw13 : w11.heap.size ≤ w13.heap.size := hB.size
            replace h1 := h1.below hB (by omega)
            replace h2 := h2.below hB (by omega)
            replace IN1 := IN1.below hB (by omega)
            replace IN2 := IN2.below hB (by omega)
            replace IN3 := IN3.below hB (by omega)
            replace D1 := (hB.block _ (by omega)).trans D1
            replace D2 := (hB.block _ (by omega)).trans D2
            replace D3 := (hB.block _ (by omega)).trans D3
            have c14 := c12.trans (hB.mono (by omega))
            clear hB
            refine hK _ _ ⟨fun _ _ p hp => c14.block p hp, ?_⟩
            clear hK K
            try simp only [Act.put, List.setIfInBounds_toArray, List.set_cons_zero, List.set_cons_succ]
            refine pureE (i := 9) (L := #[true, true, true, true, true, true, true, true, true, true, false, false, false, false, false]) (v := ?_) rfl (by rfl) (by kernel_rfl) (by kernel_rfl) (by kernel_rfl) (fun _ _ _ h => h) (by rfl) ?hy6 ?rest6
            case hy6 => intro w; go_simp; (try with_reducible rfl)
            try simp only [Act.put, List.setIfInBounds_toArray, List.set_cons_zero, List.set_cons_succ]
            refine pureE (i := 10) (L := #[true, true, true, true, true, true, true, true, true, true, true, false, false, false, false]) (v := ?_) rfl (by rfl) (by kernel_rfl) (by kernel_rfl) (by kernel_rfl) (fun _ _ _ h => h) (by rfl) ?hy7 ?rest7
            case hy7 => intro w; go_simp; (try with_reducible rfl)
            try simp only [Act.put, List.setIfInBounds_toArray, List.set_cons_zero, List.set_cons_succ]
            refine pureE (i := 11) (L := #[true, true, true, true, true, true, true, true, true, true, true, true, false, false, false]) (v := ?_) rfl (by rfl) (by kernel_rfl) (by kernel_rfl) (by kernel_rfl) (fun _ _ _ h => h) (by rfl) ?hy8 ?rest8
            case hy8 => intro w; go_simp; (try with_reducible rfl)
            try simp only [Act.put, List.setIfInBounds_toArray, List.set_cons_zero, List.set_cons_succ]
            refine stepK (i := 12) (L := #[true, true, true, true, true, true, true, true, true, true, true, true, true, false, false]) rfl (by rfl) (by kernel_rfl) (by rfl) (fun K hK => ?_)
            go_simp
            have hB := (Below.refl w13.heap.size w13).alloc (Nat.le_refl _) (.cells #[.bool false, .slice none 0 0, .int .i64 0] 24)
            have D4 := heap_alloc_last w13 (.cells #[.bool false, .slice none 0 0, .int .i64 0] 24)
            have mw15 : w13.heap.size < (w13.alloc (.cells #[.bool false, .slice none 0 0, .int .i64 0] 24)).heap.size := by simp
            generalize hw : w13.alloc (.cells #[.bool false, .slice none 0 0, .int .i64 0] 24) = w15 at *
            have lw15 : w13.heap.size ≤ w15.heap.size := hB.size
            replace h1 := h1.below hB (by omega)
            replace h2 := h2.below hB (by omega)
            replace IN1 := IN1.below hB (by omega)
            replace IN2 := IN2.below hB (by omega)
            replace IN3 := IN3.below hB (by omega)
            replace IN4 := IN4.below hB (by omega)
            replace D1 := (hB.block _ (by omega)).trans D1
            replace D2 := (hB.block _ (by omega)).trans D2
            replace D3 := (hB.block _ (by omega)).trans D3
            have c16 := c14.trans (hB.mono (by omega))
            clear hB
            try clear hw
            refine hK _ _ ⟨fun _ _ p hp => c16.block p hp, ?_⟩
            clear hK K
            try simp only [Act.put, List.setIfInBounds_toArray, List.set_cons_zero, List.set_cons_succ]
            refine stepK (i := 13) (L := #[true, true, true, true, true, true, true, true, true, true, true, true, true, true, false]) rfl (by rfl) (by kernel_rfl) (by rfl) (fun K hK => ?_)
            go_simp
            obtain ⟨⟨p1, p2, p3⟩, p4, p5, p6⟩ := boxD D4
            go_simp
            refine hK _ _ ⟨fun h => absurd h (by decide), ?_⟩
            clear hK K
            try simp only [Act.put, List.setIfInBounds_toArray, List.set_cons_zero, List.set_cons_succ]
            refine pureE (i := 14) (L := #[true, true, true, true, true, true, true, true, true, true, true, true, true, true, true]) (v := ?_) rfl (by rfl) (by kernel_rfl) (by kernel_rfl) (by kernel_rfl) (fun _ _ _ h => h) (by rfl) ?hy11 ?rest11
            case hy11 => intro w; go_simp; (try with_reducible rfl)
            try simp only [Act.put, List.setIfInBounds_toArray, List.set_cons_zero, List.set_cons_succ]
            refine doneE (by kernel_rfl) ?_ _
            clear p1 p2 p3 p4 p5 p6
            have q4 := box_put D4 (.bool r.neg) (.slice P4 i4 d4) (.int .i64 r.e)
            have d7 := below_put c16 (by omega : w4.heap.size ≤ w13.heap.size) (.bool r.neg) (.slice P4 i4 d4) (.int .i64 r.e)
            have J4 := ints_put IN4 (g := w13.heap.size) (by omega) (.bool r.neg) (.slice P4 i4 d4) (.int .i64 r.e)
            have s7 : w15.heap.size ≤ (((w15.setCell ⟨w13.heap.size, 0, none⟩ (.bool r.neg)).setCell ⟨w13.heap.size, 1, none⟩ (.slice P4 i4 d4)).setCell ⟨w13.heap.size, 2, none⟩ (.int .i64 r.e)).heap.size := by rw [size_put]; exact Nat.le_refl _
            generalize hw : ((w15.setCell ⟨w13.heap.size, 0, none⟩ (.bool r.neg)).setCell ⟨w13.heap.size, 1, none⟩ (.slice P4 i4 d4)).setCell ⟨w13.heap.size, 2, none⟩ (.int .i64 r.e) = w17 at *
            try clear hw
            have e8 := c5.trans (d7.mono (by omega))
            have X9 := (d7.block _ (by omega)).trans sv_D3
            obtain ⟨⟨p1, p2, p3⟩, p4, p5, p6⟩ := boxD q4
            obtain ⟨⟨z1, z2, z3⟩, z4, z5, z6⟩ := boxD X9
            go_wp2
            refine bodyPost_ret (v := .tuple #[.agg #[.bool r.neg, .slice P4 i4 d4, .int .i64 r.e], .int .i64 code]) (by simp [results, Tryd.results21, go_sem, z1, z2, z3]) rfl ⟨P4, i4, d4, rfl, lc4, ?_, ?_⟩
            · exact below_put e8 (by omega) _ _ _
            · exact (ints_put J4 (.inl (by omega)) _ _ _).more (by omega) (by rw [size_put]; omega)
          case o12_6 =>
            
            go_simp
            have hB := (Below.refl w11.heap.size w11).alloc (Nat.le_refl _) (.cells #[.bool false, .slice none 0 0, .int .i64 0] 24)
            have D4 := heap_alloc_last w11 (.cells #[.bool false, .slice none 0 0, .int .i64 0] 24)
            have mw18 : w11.heap.size < (w11.alloc (.cells #[.bool false, .slice none 0 0, .int .i64 0] 24)).heap.size := by simp
            generalize hw : w11.alloc (.cells #[.bool false, .slice none 0 0, .int .i64 0] 24) = w18 at *
            have lw18 : w11.heap.size ≤ w18.heap.size := hB.size
            replace h1 := h1.below hB (by omega)
            replace h2 := h2.below hB (by omega)
            replace IN1 := IN1.below hB (by omega)
            replace IN2 := IN2.below hB (by omega)
            replace IN3 := IN3.below hB (by omega)
            replace D1 := (hB.block _ (by omega)).trans D1
            replace D2 := (hB.block _ (by omega)).trans D2
            replace D3 := (hB.block _ (by omega)).trans D3
            have c19 := c12.trans (hB.mono (by omega))
            clear hB
            try clear hw
            refine hK _ _ ⟨fun _ _ p hp => c19.block p hp, ?_⟩
            clear hK K
            try simp only [Act.put, List.setIfInBounds_toArray, List.set_cons_zero, List.set_cons_succ]
            refine stepK (i := 8) (L := #[true, true, true, true, true, true, true, true, true, false, false, false, true, false, false]) rfl (by rfl) (by kernel_rfl) (by rfl) (fun K hK => ?_)
            go_simp
            go_at_call 67
            refine (rFormed_any w18 s P3 i3 d3 _ (IN3.more (Nat.zero_le _) (by omega)) dig2 lc3 (by omega) KX (by omega) KX rfl v num2 r code HF.out).mono ?_
            rintro e' w20 ⟨P4, i4, d4, rfl, lc4, hB, IN4⟩
            have lw20 : w18.heap.size ≤ w20.heap.size := hB.size
            replace h1 := h1.below hB (by omega)
            replace h2 := h2.below hB (by omega)
            replace IN1 := IN1.below hB (by omega)
            replace IN2 := IN2.below hB (by omega)
            replace IN3 := IN3.below hB (by omega)
            replace D1 := (hB.block _ (by omega)).trans D1
            replace D2 := (hB.block _ (by omega)).trans D2
            replace D3 := (hB.block _ (by omega)).trans D3
            replace D4 := (hB.block _ (by omega)).trans D4
            have c21 := c19.trans (hB.mono (by omega))
            clear hB
            refine hK _ _ ⟨fun _ _ p hp => c21.block p hp, ?_⟩
            clear hK K
            try simp only [Act.put, List.setIfInBounds_toArray, List.set_cons_zero, List.set_cons_succ]
            refine pureE (i := 9) (L := #[true, true, true, true, true, true, true, true, true, true, false, false, true, false, false]) (v := ?_) rfl (by rfl) (by kernel_rfl) (by kernel_rfl) (by kernel_rfl) (fun _ _ _ h => h) (by rfl) ?hy13 ?rest13
            case hy13 => intro w; go_simp; (try with_reducible rfl)
            try simp only [Act.put, List.setIfInBounds_toArray, List.set_cons_zero, List.set_cons_succ]
            refine pureE (i := 10) (L := #[true, true, true, true, true, true, true, true, true, true, true, false, true, false, false]) (v := ?_) rfl (by rfl) (by kernel_rfl) (by kernel_rfl) (by kernel_rfl) (fun _ _ _ h => h) (by rfl) ?hy14 ?rest14
            case hy14 => intro w; go_simp; (try with_reducible rfl)
            try simp only [Act.put, List.setIfInBounds_toArray, List.set_cons_zero, List.set_cons_succ]
            refine pureE (i := 11) (L := #[true, true, true, true, true, true, true, true, true, true, true, true, true, false, false]) (v := ?_) rfl (by rfl) (by kernel_rfl) (by kernel_rfl) (by kernel_rfl) (fun _ _ _ h => h) (by rfl) ?hy15 ?rest15
            case hy15 => intro w; go_simp; (try with_reducible rfl)
            try simp only [Act.put, List.setIfInBounds_toArray, List.set_cons_zero, List.set_cons_succ]
            refine stepK (i := 13) (L := #[true, true, true, true, true, true, true, true, true, true, true, true, true, true, false]) rfl (by rfl) (by kernel_rfl) (by rfl) (fun K hK => ?_)
            go_simp
            obtain ⟨⟨p1, p2, p3⟩, p4, p5, p6⟩ := boxD D4
            go_simp
            refine hK _ _ ⟨fun h => absurd h (by decide), ?_⟩
            clear hK K
            try simp only [Act.put, List.setIfInBounds_toArray, List.set_cons_zero, List.set_cons_succ]
            refine pureE (i := 14) (L := #[true, true, true, true, true, true, true, true, true, true, true, true, true, true, true]) (v := ?_) rfl (by rfl) (by kernel_rfl) (by kernel_rfl) (by kernel_rfl) (fun _ _ _ h => h) (by rfl) ?hy17 ?rest17
            case hy17 => intro w; go_simp; (try with_reducible rfl)
            try simp only [Act.put, List.setIfInBounds_toArray, List.set_cons_zero, List.set_cons_succ]
            refine doneE (by kernel_rfl) ?_ _
            clear p1 p2 p3 p4 p5 p6
            have q4 := box_put D4 (.bool r.neg) (.slice P4 i4 d4) (.int .i64 r.e)
            have d7 := below_put c21 (by omega : w4.heap.size ≤ w11.heap.size) (.bool r.neg) (.slice P4 i4 d4) (.int .i64 r.e)
            have J4 := ints_put IN4 (g := w11.heap.size) (by omega) (.bool r.neg) (.slice P4 i4 d4) (.int .i64 r.e)
            have s7 : w20.heap.size ≤ (((w20.setCell ⟨w11.heap.size, 0, none⟩ (.bool r.neg)).setCell ⟨w11.heap.size, 1, none⟩ (.slice P4 i4 d4)).setCell ⟨w11.heap.size, 2, none⟩ (.int .i64 r.e)).heap.size := by rw [size_put]; exact Nat.le_refl _
            generalize hw : ((w20.setCell ⟨w11.heap.size, 0, none⟩ (.bool r.neg)).setCell ⟨w11.heap.size, 1, none⟩ (.slice P4 i4 d4)).setCell ⟨w11.heap.size, 2, none⟩ (.int .i64 r.e) = w22 at *
            try clear hw
            have e8 := c5.trans (d7.mono (by omega))
            have X9 := (d7.block _ (by omega)).trans sv_D3
            obtain ⟨⟨p1, p2, p3⟩, p4, p5, p6⟩ := boxD q4
            obtain ⟨⟨z1, z2, z3⟩, z4, z5, z6⟩ := boxD X9
            go_wp2
            refine bodyPost_ret (v := .tuple #[.agg #[.bool r.neg, .slice P4 i4 d4, .int .i64 r.e], .int .i64 code]) (by simp [results, Tryd.results21, go_sem, z1, z2, z3]) rfl ⟨P4, i4, d4, rfl, lc4, ?_, ?_⟩
            · exact below_put e8 (by omega) _ _ _
            · exact (ints_put J4 (.inl (by omega)) _ _ _).more (by omega) (by rw [size_put]; omega)
        case o12_5 =>
          
          go_simp
          have hB := (Below.refl w9.heap.size w9).alloc (Nat.le_refl _) (.cells #[.bool false, .slice none 0 0, .int .i64 0] 24)
          have D4 := heap_alloc_last w9 (.cells #[.bool false, .slice none 0 0, .int .i64 0] 24)
          have mw23 : w9.heap.size < (w9.alloc (.cells #[.bool false, .slice none 0 0, .int .i64 0] 24)).heap.size := by simp
          generalize hw : w9.alloc (.cells #[.bool false, .slice none 0 0, .int .i64 0] 24) = w23 at *
          have lw23 : w9.heap.size ≤ w23.heap.size := hB.size
          replace h1 := h1.below hB (by omega)
          replace h2 := h2.below hB (by omega)
          replace IN1 := IN1.below hB (by omega)
          replace IN2 := IN2.below hB (by omega)
          replace D1 := (hB.block _ (by omega)).trans D1
          replace D2 := (hB.block _ (by omega)).trans D2
          replace D3 := (hB.block _ (by omega)).trans D3
          have c24 := c10.trans (hB.mono (by omega))
          clear hB
          try clear hw
          refine hK _ _ ⟨fun _ _ p hp => c24.block p hp, ?_⟩
          clear hK K
          try simp only [Act.put, List.setIfInBounds_toArray, List.set_cons_zero, List.set_cons_succ]
          refine stepK (i := 6) (L := #[true, true, true, true, true, true, true, true, false, false, false, false, true, false, false]) rfl (by rfl) (by kernel_rfl) (by rfl) (fun K hK => ?_)
          go_simp
          go_at_call 68
          refine (rPlus_any w23 a.neg b.neg x y P1 i1 d1 P2 i2 d2 (IN1.more (Nat.zero_le _) (by omega)) (IN2.more (Nat.zero_le _) (by omega)) ln1 ln2 s v HP.out).mono ?_
          rintro e' w25 ⟨P3, i3, d3, rfl, lc3, hB, IN3⟩
          have lw25 : w23.heap.size ≤ w25.heap.size := hB.size
          replace h1 := h1.below hB (by omega)
          replace h2 := h2.below hB (by omega)
          replace IN1 := IN1.below hB (by omega)
          replace IN2 := IN2.below hB (by omega)
          replace D1 := (hB.block _ (by omega)).trans D1
          replace D2 := (hB.block _ (by omega)).trans D2
          replace D3 := (hB.block _ (by omega)).trans D3
          replace D4 := (hB.block _ (by omega)).trans D4
          have c26 := c24.trans (hB.mono (by omega))
          clear hB
          have hi3 : i3 ≤ 2401 := by have := IN3.len; have := HVL.out; omega
          refine hK _ _ ⟨fun _ _ p hp => c26.block p hp, ?_⟩
          clear hK K
          try simp only [Act.put, List.setIfInBounds_toArray, List.set_cons_zero, List.set_cons_succ]
          refine stepK (i := 8) (L := #[true, true, true, true, true, true, true, true, true, false, false, false, true, false, false]) rfl (by rfl) (by kernel_rfl) (by rfl) (fun K hK => ?_)
          go_simp
          go_at_call 67
          refine (rFormed_any w25 s P3 i3 d3 _ (IN3.more (Nat.zero_le _) (by omega)) dig2 lc3 (by omega) KX (by omega) KX rfl v num2 r code HF.out).mono ?_
          rintro e' w27 ⟨P4, i4, d4, rfl, lc4, hB, IN4⟩
          have lw27 : w25.heap.size ≤ w27.heap.size := hB.size
          replace h1 := h1.below hB (by omega)
          replace h2 := h2.below hB (by omega)
          replace IN1 := IN1.below hB (by omega)
          replace IN2 := IN2.below hB (by omega)
          replace IN3 := IN3.below hB (by omega)
          replace D1 := (hB.block _ (by omega)).trans D1
          replace D2 := (hB.block _ (by omega)).trans D2
          replace D3 := (hB.block _ (by omega)).trans D3
          replace D4 := (hB.block _ (by omega)).trans D4
          have c28 := c26.trans (hB.mono (by omega))
          clear hB
          refine hK _ _ ⟨fun _ _ p hp => c28.block p hp, ?_⟩
          clear hK K
          try simp only [Act.put, List.setIfInBounds_toArray, List.set_cons_zero, List.set_cons_succ]
          refine pureE (i := 9) (L := #[true, true, true, true, true, true, true, true, true, true, false, false, true, false, false]) (v := ?_) rfl (by rfl) (by kernel_rfl) (by kernel_rfl) (by kernel_rfl) (fun _ _ _ h => h) (by rfl) ?hy20 ?rest20
          case hy20 => intro w; go_simp; (try with_reducible rfl)
          try simp only [Act.put, List.setIfInBounds_toArray, List.set_cons_zero, List.set_cons_succ]
          refine pureE (i := 10) (L := #[true, true, true, true, true, true, true, true, true, true, true, false, true, false, false]) (v := ?_) rfl (by rfl) (by kernel_rfl) (by kernel_rfl) (by kernel_rfl) (fun _ _ _ h => h) (by rfl) ?hy21 ?rest21
          case hy21 => intro w; go_simp; (try with_reducible rfl)
          try simp only [Act.put, List.setIfInBounds_toArray, List.set_cons_zero, List.set_cons_succ]
          refine pureE (i := 11) (L := #[true, true, true, true, true, true, true, true, true, true, true, true, true, false, false]) (v := ?_) rfl (by rfl) (by kernel_rfl) (by kernel_rfl) (by kernel_rfl) (fun _ _ _ h => h) (by rfl) ?hy22 ?rest22
          case hy22 => intro w; go_simp; (try with_reducible rfl)
          try simp only [Act.put, List.setIfInBounds_toArray, List.set_cons_zero, List.set_cons_succ]
          refine stepK (i := 13) (L := #[true, true, true, true, true, true, true, true, true, true, true, true, true, true, false]) rfl (by rfl) (by kernel_rfl) (by rfl) (fun K hK => ?_)
          go_simp
          obtain ⟨⟨p1, p2, p3⟩, p4, p5, p6⟩ := boxD D4
          go_simp
          refine hK _ _ ⟨fun h => absurd h (by decide), ?_⟩
          clear hK K
          try simp only [Act.put, List.setIfInBounds_toArray, List.set_cons_zero, List.set_cons_succ]
          refine pureE (i := 14) (L := #[true, true, true, true, true, true, true, true, true, true, true, true, true, true, true]) (v := ?_) rfl (by rfl) (by kernel_rfl) (by kernel_rfl) (by kernel_rfl) (fun _ _ _ h => h) (by rfl) ?hy24 ?rest24
          case hy24 => intro w; go_simp; (try with_reducible rfl)
          try simp only [Act.put, List.setIfInBounds_toArray, List.set_cons_zero, List.set_cons_succ]
          refine doneE (by kernel_rfl) ?_ _
          clear p1 p2 p3 p4 p5 p6
          have q4 := box_put D4 (.bool r.neg) (.slice P4 i4 d4) (.int .i64 r.e)
          have d7 := below_put c28 (by omega : w4.heap.size ≤ w9.heap.size) (.bool r.neg) (.slice P4 i4 d4) (.int .i64 r.e)
          have J4 := ints_put IN4 (g := w9.heap.size) (by omega) (.bool r.neg) (.slice P4 i4 d4) (.int .i64 r.e)
          have s7 : w27.heap.size ≤ (((w27.setCell ⟨w9.heap.size, 0, none⟩ (.bool r.neg)).setCell ⟨w9.heap.size, 1, none⟩ (.slice P4 i4 d4)).setCell ⟨w9.heap.size, 2, none⟩ (.int .i64 r.e)).heap.size := by rw [size_put]; exact Nat.le_refl _
          generalize hw : ((w27.setCell ⟨w9.heap.size, 0, none⟩ (.bool r.neg)).setCell ⟨w9.heap.size, 1, none⟩ (.slice P4 i4 d4)).setCell ⟨w9.heap.size, 2, none⟩ (.int .i64 r.e) = w29 at *
          try clear hw
          have e8 := c5.trans (d7.mono (by omega))
          have X9 := (d7.block _ (by omega)).trans sv_D3
          obtain ⟨⟨p1, p2, p3⟩, p4, p5, p6⟩ := boxD q4
          obtain ⟨⟨z1, z2, z3⟩, z4, z5, z6⟩ := boxD X9
          go_wp2
          refine bodyPost_ret (v := .tuple #[.agg #[.bool r.neg, .slice P4 i4 d4, .int .i64 r.e], .int .i64 code]) (by simp [results, Tryd.results21, go_sem, z1, z2, z3]) rfl ⟨P4, i4, d4, rfl, lc4, ?_, ?_⟩
          · exact below_put e8 (by omega) _ _ _
          · exact (ints_put J4 (.inl (by omega)) _ _ _).more (by omega) (by rw [size_put]; omega)
      case o12_4 =>
        
        go_simp
        have hB := (Below.refl w7.heap.size w7).alloc (Nat.le_refl _) (.cells #[.bool false, .slice none 0 0, .int .i64 0] 24)
        have D4 := heap_alloc_last w7 (.cells #[.bool false, .slice none 0 0, .int .i64 0] 24)
        have mw30 : w7.heap.size < (w7.alloc (.cells #[.bool false, .slice none 0 0, .int .i64 0] 24)).heap.size := by simp
        generalize hw : w7.alloc (.cells #[.bool false, .slice none 0 0, .int .i64 0] 24) = w30 at *
        have lw30 : w7.heap.size ≤ w30.heap.size := hB.size
        replace h1 := h1.below hB (by omega)
        replace h2 := h2.below hB (by omega)
        replace IN1 := IN1.below hB (by omega)
        replace D1 := (hB.block _ (by omega)).trans D1
        replace D2 := (hB.block _ (by omega)).trans D2
        replace D3 := (hB.block _ (by omega)).trans D3
        have c31 := c8.trans (hB.mono (by omega))
        clear hB
        try clear hw
        refine hK _ _ ⟨fun _ _ p hp => c31.block p hp, ?_⟩
        clear hK K
        try simp only [Act.put, List.setIfInBounds_toArray, List.set_cons_zero, List.set_cons_succ]
        refine stepK (i := 5) (L := #[true, true, true, true, true, true, false, true, false, false, false, false, true, false, false]) rfl (by rfl) (by kernel_rfl) (by rfl) (fun K hK => ?_)
        go_simp
        go_at_call 69
        refine (In_any w30 b.neg b.m b.e A2 n2 c2 (h2.more (Nat.zero_le _) (by omega)) hn2 KX kb (by omega) y HY.out KX rfl).mono ?_
        rintro e' w32 ⟨P2, i2, d2, rfl, lc2, ln2, hB, IN2⟩
        have lw32 : w30.heap.size ≤ w32.heap.size := hB.size
        replace h1 := h1.below hB (by omega)
        replace h2 := h2.below hB (by omega)
        replace IN1 := IN1.below hB (by omega)
        replace D1 := (hB.block _ (by omega)).trans D1
        replace D2 := (hB.block _ (by omega)).trans D2
        replace D3 := (hB.block _ (by omega)).trans D3
        replace D4 := (hB.block _ (by omega)).trans D4
        have c33 := c31.trans (hB.mono (by omega))
        clear hB
        refine hK _ _ ⟨fun _ _ p hp => c33.block p hp, ?_⟩
        clear hK K
        try simp only [Act.put, List.setIfInBounds_toArray, List.set_cons_zero, List.set_cons_succ]
        refine stepK (i := 6) (L := #[true, true, true, true, true, true, true, true, false, false, false, false, true, false, false]) rfl (by rfl) (by kernel_rfl) (by rfl) (fun K hK => ?_)
        go_simp
        go_at_call 68
        refine (rPlus_any w32 a.neg b.neg x y P1 i1 d1 P2 i2 d2 (IN1.more (Nat.zero_le _) (by omega)) (IN2.more (Nat.zero_le _) (by omega)) ln1 ln2 s v HP.out).mono ?_
        rintro e' w34 ⟨P3, i3, d3, rfl, lc3, hB, IN3⟩
        have lw34 : w32.heap.size ≤ w34.heap.size := hB.size
        replace h1 := h1.below hB (by omega)
        replace h2 := h2.below hB (by omega)
        replace IN1 := IN1.below hB (by omega)
        replace IN2 := IN2.below hB (by omega)
        replace D1 := (hB.block _ (by omega)).trans D1
        replace D2 := (hB.block _ (by omega)).trans D2
        replace D3 := (hB.block _ (by omega)).trans D3
        replace D4 := (hB.block _ (by omega)).trans D4
        have c35 := c33.trans (hB.mono (by omega))
        clear hB
        have hi3 : i3 ≤ 2401 := by have := IN3.len; have := HVL.out; omega
        refine hK _ _ ⟨fun _ _ p hp => c35.block p hp, ?_⟩
        clear hK K
        try simp only [Act.put, List.setIfInBounds_toArray, List.set_cons_zero, List.set_cons_succ]
        refine stepK (i := 8) (L := #[true, true, true, true, true, true, true, true, true, false, false, false, true, false, false]) rfl (by rfl) (by kernel_rfl) (by rfl) (fun K hK => ?_)
        go_simp
        go_at_call 67
        refine (rFormed_any w34 s P3 i3 d3 _ (IN3.more (Nat.zero_le _) (by omega)) dig2 lc3 (by omega) KX (by omega) KX rfl v num2 r code HF.out).mono ?_
        rintro e' w36 ⟨P4, i4, d4, rfl, lc4, hB, IN4⟩
        have lw36 : w34.heap.size ≤ w36.heap.size := hB.size
        replace h1 := h1.below hB (by omega)
        replace h2 := h2.below hB (by omega)
        replace IN1 := IN1.below hB (by omega)
        replace IN2 := IN2.below hB (by omega)
        replace IN3 := IN3.below hB (by omega)
        replace D1 := (hB.block _ (by omega)).trans D1
        replace D2 := (hB.block _ (by omega)).trans D2
        replace D3 := (hB.block _ (by omega)).trans D3
        replace D4 := (hB.block _ (by omega)).trans D4
        have c37 := c35.trans (hB.mono (by omega))
        clear hB
        refine hK _ _ ⟨fun _ _ p hp => c37.block p hp, ?_⟩
        clear hK K
        try simp only [Act.put, List.setIfInBounds_toArray, List.set_cons_zero, List.set_cons_succ]
        refine pureE (i := 9) (L := #[true, true, true, true, true, true, true, true, true, true, false, false, true, false, false]) (v := ?_) rfl (by rfl) (by kernel_rfl) (by kernel_rfl) (by kernel_rfl) (fun _ _ _ h => h) (by rfl) ?hy28 ?rest28
        case hy28 => intro w; go_simp; (try with_reducible rfl)
        try simp only [Act.put, List.setIfInBounds_toArray, List.set_cons_zero, List.set_cons_succ]
        refine pureE (i := 10) (L := #[true, true, true, true, true, true, true, true, true, true, true, false, true, false, false]) (v := ?_) rfl (by rfl) (by kernel_rfl) (by kernel_rfl) (by kernel_rfl) (fun _ _ _ h => h) (by rfl) ?hy29 ?rest29
        case hy29 => intro w; go_simp; (try with_reducible rfl)
        try simp only [Act.put, List.setIfInBounds_toArray, List.set_cons_zero, List.set_cons_succ]
        refine pureE (i := 11) (L := #[true, true, true, true, true, true, true, true, true, true, true, true, true, false, false]) (v := ?_) rfl (by rfl) (by kernel_rfl) (by kernel_rfl) (by kernel_rfl) (fun _ _ _ h => h) (by rfl) ?hy30 ?rest30
        case hy30 => intro w; go_simp; (try with_reducible rfl)
        try simp only [Act.put, List.setIfInBounds_toArray, List.set_cons_zero, List.set_cons_succ]
        refine stepK (i := 13) (L := #[true, true, true, true, true, true, true, true, true, true, true, true, true, true, false]) rfl (by rfl) (by kernel_rfl) (by rfl) (fun K hK => ?_)
        go_simp
        obtain ⟨⟨p1, p2, p3⟩, p4, p5, p6⟩ := boxD D4
        go_simp
        refine hK _ _ ⟨fun h => absurd h (by decide), ?_⟩
        clear hK K
        try simp only [Act.put, List.setIfInBounds_toArray, List.set_cons_zero, List.set_cons_succ]
        refine pureE (i := 14) (L := #[true, true, true, true, true, true, true, true, true, true, true, true, true, true, true]) (v := ?_) rfl (by rfl) (by kernel_rfl) (by kernel_rfl) (by kernel_rfl) (fun _ _ _ h => h) (by rfl) ?hy32 ?rest32
        case hy32 => intro w; go_simp; (try with_reducible rfl)
        try simp only [Act.put, List.setIfInBounds_toArray, List.set_cons_zero, List.set_cons_succ]
        refine doneE (by kernel_rfl) ?_ _
        clear p1 p2 p3 p4 p5 p6
        have q4 := box_put D4 (.bool r.neg) (.slice P4 i4 d4) (.int .i64 r.e)
        have d7 := below_put c37 (by omega : w4.heap.size ≤ w7.heap.size) (.bool r.neg) (.slice P4 i4 d4) (.int .i64 r.e)
        have J4 := ints_put IN4 (g := w7.heap.size) (by omega) (.bool r.neg) (.slice P4 i4 d4) (.int .i64 r.e)
        have s7 : w36.heap.size ≤ (((w36.setCell ⟨w7.heap.size, 0, none⟩ (.bool r.neg)).setCell ⟨w7.heap.size, 1, none⟩ (.slice P4 i4 d4)).setCell ⟨w7.heap.size, 2, none⟩ (.int .i64 r.e)).heap.size := by rw [size_put]; exact Nat.le_refl _
        generalize hw : ((w36.setCell ⟨w7.heap.size, 0, none⟩ (.bool r.neg)).setCell ⟨w7.heap.size, 1, none⟩ (.slice P4 i4 d4)).setCell ⟨w7.heap.size, 2, none⟩ (.int .i64 r.e) = w38 at *
        try clear hw
        have e8 := c5.trans (d7.mono (by omega))
        have X9 := (d7.block _ (by omega)).trans sv_D3
        obtain ⟨⟨p1, p2, p3⟩, p4, p5, p6⟩ := boxD q4
        obtain ⟨⟨z1, z2, z3⟩, z4, z5, z6⟩ := boxD X9
        go_wp2
        refine bodyPost_ret (v := .tuple #[.agg #[.bool r.neg, .slice P4 i4 d4, .int .i64 r.e], .int .i64 code]) (by simp [results, Tryd.results21, go_sem, z1, z2, z3]) rfl ⟨P4, i4, d4, rfl, lc4, ?_, ?_⟩
        · exact below_put e8 (by omega) _ _ _
        · exact (ints_put J4 (.inl (by omega)) _ _ _).more (by omega) (by rw [size_put]; omega)
    case o12_3 =>
      
      go_simp
      have hB := (Below.refl w6.heap.size w6).alloc (Nat.le_refl _) (.cells #[.bool false, .slice none 0 0, .int .i64 0] 24)
      have D4 := heap_alloc_last w6 (.cells #[.bool false, .slice none 0 0, .int .i64 0] 24)
      have mw39 : w6.heap.size < (w6.alloc (.cells #[.bool false, .slice none 0 0, .int .i64 0] 24)).heap.size := by simp
      generalize hw : w6.alloc (.cells #[.bool false, .slice none 0 0, .int .i64 0] 24) = w39 at *
      have lw39 : w6.heap.size ≤ w39.heap.size := hB.size
      replace h1 := h1.below hB (by omega)
      replace h2 := h2.below hB (by omega)
      replace D1 := (hB.block _ (by omega)).trans D1
      replace D2 := (hB.block _ (by omega)).trans D2
      replace D3 := (hB.block _ (by omega)).trans D3
      have c40 := hB0.trans (hB.mono (by omega))
      clear hB
      try clear hw
      refine hK _ _ ⟨fun _ _ p hp => c40.block p hp, ?_⟩
      clear hK K
      try simp only [Act.put, List.setIfInBounds_toArray, List.set_cons_zero, List.set_cons_succ]
      refine stepK (i := 2) (L := #[true, true, true, true, true, false, false, true, false, false, false, false, true, false, false]) rfl (by rfl) (by kernel_rfl) (by rfl) (fun K hK => ?_)
      go_simp
      go_at_call 69
      refine (In_any w39 a.neg a.m a.e A1 n1 c1 (h1.more (Nat.zero_le _) (by omega)) hn1 KX ka (by omega) x HX.out KX rfl).mono ?_
      rintro e' w41 ⟨P1, i1, d1, rfl, lc1, ln1, hB, IN1⟩
      have lw41 : w39.heap.size ≤ w41.heap.size := hB.size
      replace h1 := h1.below hB (by omega)
      replace h2 := h2.below hB (by omega)
      replace D1 := (hB.block _ (by omega)).trans D1
      replace D2 := (hB.block _ (by omega)).trans D2
      replace D3 := (hB.block _ (by omega)).trans D3
      replace D4 := (hB.block _ (by omega)).trans D4
      have c42 := c40.trans (hB.mono (by omega))
      clear hB
      refine hK _ _ ⟨fun _ _ p hp => c42.block p hp, ?_⟩
      clear hK K
      try simp only [Act.put, List.setIfInBounds_toArray, List.set_cons_zero, List.set_cons_succ]
      refine stepK (i := 5) (L := #[true, true, true, true, true, true, false, true, false, false, false, false, true, false, false]) rfl (by rfl) (by kernel_rfl) (by rfl) (fun K hK => ?_)
      go_simp
      go_at_call 69
      refine (In_any w41 b.neg b.m b.e A2 n2 c2 (h2.more (Nat.zero_le _) (by omega)) hn2 KX kb (by omega) y HY.out KX rfl).mono ?_
      rintro e' w43 ⟨P2, i2, d2, rfl, lc2, ln2, hB, IN2⟩
      have lw43 : w41.heap.size ≤ w43.heap.size := hB.size
      replace h1 := h1.below hB (by omega)
      replace h2 := h2.below hB (by omega)
      replace IN1 := IN1.below hB (by omega)
      replace D1 := (hB.block _ (by omega)).trans D1
      replace D2 := (hB.block _ (by omega)).trans D2
      replace D3 := (hB.block _ (by omega)).trans D3
      replace D4 := (hB.block _ (by omega)).trans D4
      have c44 := c42.trans (hB.mono (by omega))
      clear hB
      refine hK _ _ ⟨fun _ _ p hp => c44.block p hp, ?_⟩
      clear hK K
      try simp only [Act.put, List.setIfInBounds_toArray, List.set_cons_zero, List.set_cons_succ]
      refine stepK (i := 6) (L := #[true, true, true, true, true, true, true, true, false, false, false, false, true, false, false]) rfl (by rfl) (by kernel_rfl) (by rfl) (fun K hK => ?_)
      go_simp
      go_at_call 68
      refine (rPlus_any w43 a.neg b.neg x y P1 i1 d1 P2 i2 d2 (IN1.more (Nat.zero_le _) (by omega)) (IN2.more (Nat.zero_le _) (by omega)) ln1 ln2 s v HP.out).mono ?_
      rintro e' w45 ⟨P3, i3, d3, rfl, lc3, hB, IN3⟩
      have lw45 : w43.heap.size ≤ w45.heap.size := hB.size
      replace h1 := h1.below hB (by omega)
      replace h2 := h2.below hB (by omega)
      replace IN1 := IN1.below hB (by omega)
      replace IN2 := IN2.below hB (by omega)
      replace D1 := (hB.block _ (by omega)).trans D1
      replace D2 := (hB.block _ (by omega)).trans D2
      replace D3 := (hB.block _ (by omega)).trans D3
      replace D4 := (hB.block _ (by omega)).trans D4
      have c46 := c44.trans (hB.mono (by omega))
      clear hB
      have hi3 : i3 ≤ 2401 := by have := IN3.len; have := HVL.out; omega
      refine hK _ _ ⟨fun _ _ p hp => c46.block p hp, ?_⟩
      clear hK K
      try simp only [Act.put, List.setIfInBounds_toArray, List.set_cons_zero, List.set_cons_succ]
      refine stepK (i := 8) (L := #[true, true, true, true, true, true, true, true, true, false, false, false, true, false, false]) rfl (by rfl) (by kernel_rfl) (by rfl) (fun K hK => ?_)
      go_simp
      go_at_call 67
      refine (rFormed_any w45 s P3 i3 d3 _ (IN3.more (Nat.zero_le _) (by omega)) dig2 lc3 (by omega) KX (by omega) KX rfl v num2 r code HF.out).mono ?_
      rintro e' w47 ⟨P4, i4, d4, rfl, lc4, hB, IN4⟩
      have lw47 : w45.heap.size ≤ w47.heap.size := hB.size
      replace h1 := h1.below hB (by omega)
      replace h2 := h2.below hB (by omega)
      replace IN1 := IN1.below hB (by omega)
      replace IN2 := IN2.below hB (by omega)
      replace IN3 := IN3.below hB (by omega)
      replace D1 := (hB.block _ (by omega)).trans D1
      replace D2 := (hB.block _ (by omega)).trans D2
      replace D3 := (hB.block _ (by omega)).trans D3
      replace D4 := (hB.block _ (by omega)).trans D4
      have c48 := c46.trans (hB.mono (by omega))
      clear hB
      refine hK _ _ ⟨fun _ _ p hp => c48.block p hp, ?_⟩
      clear hK K
      try simp only [Act.put, List.setIfInBounds_toArray, List.set_cons_zero, List.set_cons_succ]
      refine pureE (i := 9) (L := #[true, true, true, true, true, true, true, true, true, true, false, false, true, false, false]) (v := ?_) rfl (by rfl) (by kernel_rfl) (by kernel_rfl) (by kernel_rfl) (fun _ _ _ h => h) (by rfl) ?hy37 ?rest37
      case hy37 => intro w; go_simp; (try with_reducible rfl)
      try simp only [Act.put, List.setIfInBounds_toArray, List.set_cons_zero, List.set_cons_succ]
      refine pureE (i := 10) (L := #[true, true, true, true, true, true, true, true, true, true, true, false, true, false, false]) (v := ?_) rfl (by rfl) (by kernel_rfl) (by kernel_rfl) (by kernel_rfl) (fun _ _ _ h => h) (by rfl) ?hy38 ?rest38
      case hy38 => intro w; go_simp; (try with_reducible rfl)
      try simp only [Act.put, List.setIfInBounds_toArray, List.set_cons_zero, List.set_cons_succ]
      refine pureE (i := 11) (L := #[true, true, true, true, true, true, true, true, true, true, true, true, true, false, false]) (v := ?_) rfl (by rfl) (by kernel_rfl) (by kernel_rfl) (by kernel_rfl) (fun _ _ _ h => h) (by rfl) ?hy39 ?rest39
      case hy39 => intro w; go_simp; (try with_reducible rfl)
      try simp only [Act.put, List.setIfInBounds_toArray, List.set_cons_zero, List.set_cons_succ]
      refine stepK (i := 13) (L := #[true, true, true, true, true, true, true, true, true, true, true, true, true, true, false]) rfl (by rfl) (by kernel_rfl) (by rfl) (fun K hK => ?_)
      go_simp
      obtain ⟨⟨p1, p2, p3⟩, p4, p5, p6⟩ := boxD D4
      go_simp
      refine hK _ _ ⟨fun h => absurd h (by decide), ?_⟩
      clear hK K
      try simp only [Act.put, List.setIfInBounds_toArray, List.set_cons_zero, List.set_cons_succ]
      refine pureE (i := 14) (L := #[true, true, true, true, true, true, true, true, true, true, true, true, true, true, true]) (v := ?_) rfl (by rfl) (by kernel_rfl) (by kernel_rfl) (by kernel_rfl) (fun _ _ _ h => h) (by rfl) ?hy41 ?rest41
      case hy41 => intro w; go_simp; (try with_reducible rfl)
      try simp only [Act.put, List.setIfInBounds_toArray, List.set_cons_zero, List.set_cons_succ]
      refine doneE (by kernel_rfl) ?_ _
      clear p1 p2 p3 p4 p5 p6
      have q4 := box_put D4 (.bool r.neg) (.slice P4 i4 d4) (.int .i64 r.e)
      have d7 := below_put c48 (by omega : w4.heap.size ≤ w6.heap.size) (.bool r.neg) (.slice P4 i4 d4) (.int .i64 r.e)
      have J4 := ints_put IN4 (g := w6.heap.size) (by omega) (.bool r.neg) (.slice P4 i4 d4) (.int .i64 r.e)
      have s7 : w47.heap.size ≤ (((w47.setCell ⟨w6.heap.size, 0, none⟩ (.bool r.neg)).setCell ⟨w6.heap.size, 1, none⟩ (.slice P4 i4 d4)).setCell ⟨w6.heap.size, 2, none⟩ (.int .i64 r.e)).heap.size := by rw [size_put]; exact Nat.le_refl _
      generalize hw : ((w47.setCell ⟨w6.heap.size, 0, none⟩ (.bool r.neg)).setCell ⟨w6.heap.size, 1, none⟩ (.slice P4 i4 d4)).setCell ⟨w6.heap.size, 2, none⟩ (.int .i64 r.e) = w49 at *
      try clear hw
      have e8 := c5.trans (d7.mono (by omega))
      have X9 := (d7.block _ (by omega)).trans sv_D3
      obtain ⟨⟨p1, p2, p3⟩, p4, p5, p6⟩ := boxD q4
      obtain ⟨⟨z1, z2, z3⟩, z4, z5, z6⟩ := boxD X9
      go_wp2
      refine bodyPost_ret (v := .tuple #[.agg #[.bool r.neg, .slice P4 i4 d4, .int .i64 r.e], .int .i64 code]) (by simp [results, Tryd.results21, go_sem, z1, z2, z3]) rfl ⟨P4, i4, d4, rfl, lc4, ?_, ?_⟩
      · exact below_put e8 (by omega) _ _ _
      · exact (ints_put J4 (.inl (by omega)) _ _ _).more (by omega) (by rw [size_put]; omega)
end Dy
end Go.Proofs.YtlbkepiflhchdaaDoor

namespace Go.Proofs.YtlbkepiflhchdaaDoor
open Go.RowKit

def opPlain (o : Oper) : Bool := match o.op with
  | .defer _ => false
  | _ => true
theorem opPlain_spec {o : Oper} (h : opPlain o = true) : ∀ c, o.op ≠ .defer c := by
  intro c e
  unfold opPlain at h
  rw [e] at h
  cases h

section
variable {P : Program} {ops : Array Oper} {Q : Exit → Act → World → Prop} {md : Region.Mode} {l n : Nat}

theorem operIn_of_oper {o : Oper} {a : Act} {w : World} {K : Act → World → Prop} (hnd : opPlain o = true) (h : o.wp P a w K Q) : o.wpIn (Fence.wide.inRound l) n P a w K Q := by
  refine ⟨fun _ _ => trivial, ?_⟩
  unfold Oper.wp at h
  rw [Oper.semAt_eq _ _ _ (opPlain_spec hnd)]
  generalize (execOp a.eval o).run P w = r at h ⊢
  cases r with
  | ok x w' =>
    cases x with
    | value v => exact h
    | skip => exact h
    | defer d => exact h
    | enter f args => exact ⟨(fun e => by cases e), CallsIn.inRound l (callsIn_wide.2 h)⟩
    | row row args =>
      refine ⟨(fun e => by cases e), fun c cs _ => ?_⟩
      obtain ⟨v, w'', r, s⟩ := h c cs
      exact ⟨v, w'', r, stepsIn_wide.2 s⟩
    | _ => exact h.elim
  | halt x w' =>
    cases x <;> first | exact h | exact h.elim

theorem opIn_of_op {i : Nat} {a : Act} {w : World} {K K' : Act → World → Prop} (hnd : ops.all opPlain = true) (hQ : ∀ a w, ¬ Q .outgrown a w) (hK : ∀ a w, K a w → K' a w) (h : wpOp P ops Q i K a w) : wpOpIn (Fence.wide.inRound l) n P ops Q i K' a w := by
  unfold wpOp at h
  unfold wpOpIn
  cases ho : ops[i]? with
  | none =>
    rw [ho] at h
    exact hK _ _ h
  | some o =>
    rw [ho] at h
    have hp : opPlain o = true := by
      obtain ⟨hi, he⟩ := Array.getElem?_eq_some_iff.1 ho
      rw [← he]
      exact (Array.all_eq_true.1 hnd) i hi
    by_cases hw : Region.wanted o (yielded ops a.tmps) = true
    · simp only [hw, if_true] at h ⊢
      rcases h with h | ⟨_, a', w', hq⟩
      · exact Oper.wpIn_mono hK (operIn_of_oper hp h)
      · exact absurd hq (hQ a' w')
    · simp only [hw] at h ⊢
      exact ⟨fun _ _ => trivial, hK _ _ h⟩

theorem anyIn_of_any (hnd : ops.all opPlain = true) (hQ : ∀ a w, ¬ Q .outgrown a w) : ∀ (fuel : Nat) (listed : Array Bool) (a : Act) (w : World),
    wpAny P md ops Q fuel listed a w → wpAnyIn (Fence.wide.inRound l) n P md ops Q fuel listed a w
  | 0, _, _, _, h => h
  | fuel + 1, _, _, _, h => ⟨h.1, fun i hi => opIn_of_op hnd hQ (fun a' w' h' => anyIn_of_any hnd hQ fuel _ a' w' h') (h.2 i hi)⟩

theorem roundRegion_held {S : World → Prop} {id : Nat} {a : Act} {w : World} (hm : P.follows .mixedOrders = true) (hnd : ops.all opPlain = true) (hQ : ∀ a w, ¬ Q .outgrown a w) (hS : S w.drew)
    (h : S w.drew → wpAnyH P .any ops Q S ops.size (Array.replicate ops.size false) a w.drew) : (Code.region id ops true).wpIn (Fence.wide.inRound l) n P Q a w :=
  wpIn_region_any hm (anyIn_of_any hnd hQ _ _ _ _ (wpAny_of_held _ _ _ _ (h hS)))

theorem roundRegion_quiet {id : Nat} {a : Act} {w : World} {os : List Oper} (hm : P.follows .mixedOrders = true) (hnd : os.toArray.all opPlain = true) (hQ : ∀ a w, ¬ Q .outgrown a w) (hB : Region.lexB .any os.toArray = true)
    (h : wpQuiet P os.toArray (fun w' => ∃ n, w' = w.drewN n) (fun a' => ∀ w', (∃ n, w' = w.drewN n) → Q .normal a' w') os a) : (Code.region id os.toArray true).wpIn (Fence.wide.inRound l) n P Q a w := by
  simp only [Region.lexB, Bool.and_eq_true] at hB
  refine wpIn_region_any hm (anyIn_of_any hnd hQ _ _ _ _ (wpAny_of_quiet (C := fun w' => ∃ n, w' = w.drewN n) (Q := fun a' => ∀ w', (∃ n, w' = w.drewN n) → Q .normal a' w') (fun _ w' hw' h => h w' hw') _ _ _ _ ⟨1, rfl⟩ ?_))
  have := wpAnyQ_lex (P := P) (C := fun w' => ∃ n, w' = w.drewN n) (md := .any) (Q := fun a' => ∀ w', (∃ n, w' = w.drewN n) → Q .normal a' w') hB.1 os.toArray.toList 0 (Array.replicate os.toArray.size false) a (by simp) (by simpa using hB.2) (by simpa using h)
  simpa using this
end
section
variable {P : Program} {ops : Array Oper} {os : List Oper} {Q : Exit → Act → World → Prop} {md : Region.Mode} {S : World → Prop} {k : Nat}
/-- Whatever order is picked, S holds behind each operation but number k, which waits for the others. -/
def wpAnyZ (P : Program) (md : Region.Mode) (ops : Array Oper) (Q : Exit → Act → World → Prop) (S : World → Prop) (k : Nat) : Nat → Array Bool → Act → World → Prop
  | 0, L, a, w => Region.ready md ops L = [] ∧ Q .normal a w
  | n + 1, L, a, w => (Region.ready md ops L = [] → Q .normal a w) ∧ ∀ i ∈ Region.ready md ops L, wpOp P ops Q i (fun a' w' => (i ≠ k → S w') ∧ wpAnyZ P md ops Q S k n (L.setIfInBounds i true) a' w') a w
theorem any_of_Z : ∀ (n : Nat) (L : Array Bool) (a : Act) (w : World), wpAnyZ P md ops Q S k n L a w → wpAny P md ops Q n L a w
  | 0, _, _, _, h => h
  | n + 1, _, _, _, h => ⟨h.1, fun i hi => wpOp_mono (fun a' w' h' => any_of_Z n _ a' w' h'.2) (h.2 i hi)⟩
/-- Number k waits for number i. -/
def waits (md : Region.Mode) (ops : Array Oper) (k i : Nat) : Bool := match ops[k]? with
  | none => true
  | some o => o.after.any fun e => Region.binds md e && e.on == i
theorem not_ready {L : Array Bool} {i : Nat} (hw : waits md ops k i = true) (hi : i ∈ Region.ready md ops L) : k ∉ Region.ready md ops L := fun hk => by
  obtain ⟨_, o, ho, hall⟩ := mem_ready.1 hk
  have h0 := (mem_ready.1 hi).1
  unfold waits at hw
  rw [ho] at hw
  simp only [Array.any_eq_true, Bool.and_eq_true, beq_iff_eq] at hw
  obtain ⟨j, hj, hb, he⟩ := hw
  have h1 := hall _ (Array.getElem_mem hj) hb
  rw [he] at h1
  rcases Nat.lt_or_ge i L.size with h' | h'
  · simp [h'] at h0 h1
    rw [h0] at h1
    cases h1
  · simp [Array.getElem?_eq_none h'] at h1
theorem firstZ {i : Nat} {oi : Oper} {v : Value} (hi : ops[i]? = some oi) (hsel : ∀ (j : Nat) (o : Oper) cs b, ops[j]? = some o → o.op ≠ .select cs b) (hw : waits md ops k i = true)
    (hQ : ∀ c a w, Q (.panic c) (a.put oi.dst v) w → Q (.panic c) a w) :
    ∀ (n : Nat) (L : Array Bool) (a : Act) (w : World),
      (∀ j oj, ops[j]? = some oj → j ≠ i → L.getD j true = false → (∀ e ∈ oj.after, Region.binds md e = true → e.on ≠ i) → oi.apart ops oj = true) →
      i ∈ Region.ready md ops L → YieldsIf P ops S oi v a → S w → wpAnyZ P md ops Q S k n (L.setIfInBounds i true) (a.put oi.dst v) w → wpAnyZ P md ops Q S k (n + 1) L a w := by
  intro n
  induction n with
  | zero =>
    intro L a w _ hr hy hS H
    refine ⟨fun h => (by rw [h] at hr; cases hr), fun j hj => ?_⟩
    by_cases hji : j = i
    · subst hji
      exact hy.wpOp hi hS ⟨fun _ => hS, H⟩
    · have := ready_mono hj hji
      rw [H.1] at this
      cases this
  | succ n ih =>
    intro L a w hfree hr hy hS H
    refine ⟨fun h => (by rw [h] at hr; cases hr), fun j hj => ?_⟩
    by_cases hji : j = i
    · subst hji
      exact hy.wpOp hi hS ⟨fun _ => hS, H⟩
    · have h1 := H.2 j (ready_mono hj hji)
      have hjk : j ≠ k := fun e => not_ready hw hr (e ▸ hj)
      obtain ⟨hjun, oj, hoj, hall⟩ := mem_ready.1 hj
      have hnot : ∀ e ∈ oj.after, Region.binds md e = true → e.on ≠ i := fun e he hb heq => by
        refine not_ready (k := j) (md := md) (ops := ops) ?_ hr hj
        unfold waits
        rw [hoj]
        obtain ⟨m, hm, hme⟩ := Array.getElem_of_mem he
        simp only [Array.any_eq_true, Bool.and_eq_true, beq_iff_eq]
        exact ⟨m, hm, by rw [hme]; exact hb, by rw [hme]; exact heq⟩
      have h2 := wpOp_putIf hoj (hfree j oj hoj hji hjun hnot) (fun cs b => hsel i oi cs b hi) (fun cs b => hsel j oj cs b hoj) hQ hy h1
      refine wpOp_mono (fun a' w' h3 => ⟨h3.2.1, ih (L.setIfInBounds j true) a' w' (fun m om hm hmi hun hno => ?_) (ready_mono hr (Ne.symm hji)) h3.1 (h3.2.1 hjk) ?_⟩) h2
      · refine hfree m om hm hmi ?_ hno
        by_cases hjm : j = m
        · subst hjm
          exact hjun
        · rw [getD_set_ne true hjm] at hun
          exact hun
      · rw [Array.setIfInBounds_comm _ _ hji]
        exact h3.2.2
/-- The take, over a list: so the operation comes in written out. -/
theorem takeH {i n : Nat} {oi : Oper} {v : Value} {listed L : Array Bool} {a : Act} {w : World} (hi : os[i]? = some oi) (hL : listed.setIfInBounds i true = L)
    (hs : Region.noSelect os.toArray = true) (hf : (Region.free md os.toArray listed i && waits md os.toArray k i) = true) (hr : (Region.ready md os.toArray listed).contains i = true)
    (hQ : ∀ c a w, Q (.panic c) (a.put oi.dst v) w → Q (.panic c) a w) (hS : S w) (hw : Region.wanted oi (yielded os.toArray a.tmps) = true) (hy : ∀ w, S w → (execOp a.eval oi).run P w = .ok (.value v) w)
    (h : wpAnyZ P md os.toArray Q S k n L (a.put oi.dst v) w) : wpAnyZ P md os.toArray Q S k (n + 1) listed a w := by
  rw [Bool.and_eq_true] at hf
  have hi' : os.toArray[i]? = some oi := by simpa using hi
  exact firstZ hi' (Region.noSelect_spec hs) hf.2 hQ n listed a w (Region.free_spec hi' hf.1) (by simpa using hr) (Or.inl ⟨hw, hy⟩) hS (hL ▸ h)
/-- One alone may come up: it is carried out, and S shown anew. -/
theorem stepH {i n : Nat} {oi : Oper} {listed L : Array Bool} {a : Act} {w : World} (hi : os[i]? = some oi) (hL : listed.setIfInBounds i true = L)
    (hr : Region.ready md os.toArray listed = [i]) (hw : Region.wanted oi (yielded os.toArray a.tmps) = true)
    (h : ∀ K' : Act → World → Prop, Shut (∀ a w, (i ≠ k → S w) → ((i ≠ k → S w) → wpAnyZ P md os.toArray Q S k n L a w) → K' a w) → Oper.wp P oi a w K' Q) :
    wpAnyZ P md os.toArray Q S k (n + 1) listed a w := by
  subst hL
  refine ⟨fun h0 => (by rw [hr] at h0; cases h0), fun j hj => ?_⟩
  rw [hr] at hj
  obtain rfl := List.mem_singleton.1 hj
  refine wpOp_step (by simpa using hi) (fun K' hK => ?_)
  rw [if_pos hw]
  exact h K' (fun a w hS hW => hK a w ⟨hS, hW hS⟩)
/-- Two may come up: whichever. -/
theorem stepH2 {i j n : Nat} {oi oj : Oper} {listed Li Lj : Array Bool} {a : Act} {w : World} (hi : os[i]? = some oi) (hj : os[j]? = some oj) (hLi : listed.setIfInBounds i true = Li) (hLj : listed.setIfInBounds j true = Lj)
    (hr : Region.ready md os.toArray listed = [i, j]) (hwi : Region.wanted oi (yielded os.toArray a.tmps) = true) (hwj : Region.wanted oj (yielded os.toArray a.tmps) = true)
    (h : ∀ K' : Act → World → Prop, Shut (∀ a w, (i ≠ k → S w) → ((i ≠ k → S w) → wpAnyZ P md os.toArray Q S k n Li a w) → K' a w) → Oper.wp P oi a w K' Q)
    (h' : ∀ K' : Act → World → Prop, Shut (∀ a w, (j ≠ k → S w) → ((j ≠ k → S w) → wpAnyZ P md os.toArray Q S k n Lj a w) → K' a w) → Oper.wp P oj a w K' Q) :
    wpAnyZ P md os.toArray Q S k (n + 1) listed a w := by
  subst hLi
  subst hLj
  refine ⟨fun h0 => (by rw [hr] at h0; cases h0), fun m hm => ?_⟩
  rw [hr] at hm
  simp only [List.mem_cons, List.not_mem_nil, or_false] at hm
  rcases hm with rfl | rfl
  · refine wpOp_step (by simpa using hi) (fun K' hK => ?_)
    rw [if_pos hwi]
    exact h K' (fun a w hS hW => hK a w ⟨hS, hW hS⟩)
  · refine wpOp_step (by simpa using hj) (fun K' hK => ?_)
    rw [if_pos hwj]
    exact h' K' (fun a w hS hW => hK a w ⟨hS, hW hS⟩)
theorem doneZ {L : Array Bool} {a : Act} {w : World} (hr : Region.ready md ops L = []) (h : Q .normal a w) : ∀ n, wpAnyZ P md ops Q S k n L a w
  | 0 => ⟨hr, h⟩
  | _ + 1 => ⟨fun _ => h, by rw [hr]; simp⟩
theorem roundRegion_heldL {l n : Nat} (S : World → Prop) (k : Nat) {id m : Nat} {L : Array Bool} {a : Act} {w : World} (hm : P.follows .mixedOrders = true) (hnd : os.toArray.all opPlain = true) (hQ : ∀ a w, ¬ Q .outgrown a w) (hsz : os.length = m) (hL : Array.replicate m false = L) (hS : S w.drew)
    (h : S w.drew → wpAnyZ P .any os.toArray Q S k m L a w.drew) : (Code.region id os.toArray true).wpIn (Fence.wide.inRound l) n P Q a w := by
  subst hsz
  subst hL
  exact wpIn_region_any hm (anyIn_of_any hnd hQ _ _ _ _ (any_of_Z _ _ _ _ (h hS)))
/-- The same in a plain walk. -/
theorem plainRegion_heldL (S : World → Prop) (k : Nat) {id m : Nat} {L : Array Bool} {a : Act} {w : World} (hm : P.follows .mixedOrders = true) (hsz : os.length = m) (hL : Array.replicate m false = L) (hS : S w.drew)
    (h : S w.drew → wpAnyZ P .any os.toArray Q S k m L a w.drew) : (Code.region id os.toArray true).wp P Q a w := by
  subst hsz
  subst hL
  exact wp_region_any hm (any_of_Z _ _ _ _ (h hS))
end
end Go.Proofs.YtlbkepiflhchdaaDoor

namespace Go.Proofs.YtlbkepiflhchdaaDoor
open Go.RowKit
section
variable {P : Program} {os : List Oper} {Q : Exit → Act → World → Prop} {l n : Nat}
theorem roundRegion_E (S : World → Prop) (E : List Nat) {id m : Nat} {L : Array Bool} {a : Act} {w : World} (hm : P.follows .mixedOrders = true) (hnd : os.toArray.all opPlain = true) (hQ : ∀ a w, ¬ Q .outgrown a w) (hsz : os.length = m) (hL : Array.replicate m false = L)
    (h : wpAnyE P .any os.toArray Q S E m L a w.drew) : (Code.region id os.toArray true).wpIn (Fence.wide.inRound l) n P Q a w := by
  subst hsz
  subst hL
  exact wpIn_region_any hm (anyIn_of_any hnd hQ _ _ _ _ (any_of_E _ _ _ _ h))
end
end Go.Proofs.YtlbkepiflhchdaaDoor
