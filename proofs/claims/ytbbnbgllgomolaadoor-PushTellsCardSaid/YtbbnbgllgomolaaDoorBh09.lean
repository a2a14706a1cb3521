/- The reference's Minus and Add: walks (printed by a program of mine). -/
/- The reference's Add, Sub and Half of whatever dyads: walks (printed by a program of mine). -/
/- The law DyadSums: a walk (printed by a program of mine). -/
import Derived.Deep.DeepCutAuto
import Derived.Deep.CutRange
import Derived.Test.YtbbnbgllgomolaaDoorBh08
import Derived.Test.YtbbnbgllgomolaaDoorBh03
import Derived.Test.YtbbnbgllgomolaaDoorBh07
import Derived.Test.YtbbnbgllgomolaaDoorBh06
import Derived.Laws.StructEq
import Derived.Test.YtbbnbgllgomolaaDoorBh05
namespace Go.Proofs.YtbbnbgllgomolaaDoor
open Go.RowKit
namespace Dy
open Dp
theorem boxes2 (w : World) (o1 o2 : Obj) {w1 : World} (hw : (w.alloc o1).alloc o2 = w1) : w1.heap[w.heap.size]? = some o1 ∧ w1.heap[w.heap.size + 1]? = some o2 ∧ Below w.heap.size w w1 ∧ w.heap.size + 2 ≤ w1.heap.size ∧ w1.heap.size ≤ w.heap.size + 2 := by
  subst hw
  exact ⟨by rw [Below.heap_alloc _ _ _ (by simp)]; exact heap_alloc_last _ _, heap_alloc2_new _ _ _, ((Below.refl _ w).alloc (Nat.le_refl _) _).alloc (by simp) _, by simp, by simp⟩
theorem boxes3 (w : World) (o1 o2 o3 : Obj) {w1 : World} (hw : ((w.alloc o1).alloc o2).alloc o3 = w1) : w1.heap[w.heap.size]? = some o1 ∧ w1.heap[w.heap.size + 1]? = some o2 ∧ w1.heap[w.heap.size + 1 + 1]? = some o3 ∧ Below w.heap.size w w1 ∧ w.heap.size + 3 ≤ w1.heap.size ∧ w1.heap.size ≤ w.heap.size + 3 := by
  obtain ⟨h1, h2, h3, h4, h5⟩ := boxes2 w o1 o2 rfl
  subst hw
  refine ⟨(Below.heap_alloc _ _ _ (by omega)).trans h1, (Below.heap_alloc _ _ _ (by omega)).trans h2, ?_, h3.alloc (by omega) _, by simp, by simp⟩
  have e : w.heap.size + 1 + 1 = ((w.alloc o1).alloc o2).heap.size := by omega
  rw [e]
  exact heap_alloc_last _ _
theorem shift_len {a : Dn} (ha : a.May) {K : Nat} (hK : K ≤ 1024) {L : Nat} (hL : L = 2400) : a.m * 2 ^ (K - a.e) < 2 ^ L := by
  have h1 := ha.1
  have h3 : a.m * 2 ^ (K - a.e) < capD * 2 ^ (K - a.e) := Nat.mul_lt_mul_of_pos_right h1 (Nat.pow_pos (by decide))
  refine Nat.lt_of_lt_of_le h3 ?_
  rw [capD_eq, ← Nat.pow_add]
  exact Nat.pow_le_pow_right (by decide) (by rw [capE_eq]; omega)
theorem plus_len {s t s' : Bool} {x y v : Nat} (h : plusS s x t y = (s', v)) : v ≤ x + y := by
  rcases plus_cases s t x y s' v h with ⟨_, _, h⟩ | ⟨_, _, _, _, h⟩ | ⟨_, _, _, _, h⟩ | ⟨_, _, _, _, h⟩ <;> omega
set_option maxHeartbeats 12800000 in
set_option maxRecDepth 100000 in
/-- headcountref02.Add, of two that may be. -/
theorem rAdd_dn (w : World) (a b : Dn) (ha : a.May) (hb : b.May) (A1 A2 : Option Addr) (n1 c1 n2 c2 : Nat) (h1 : Ints w 0 w.heap.size .u32 A1 n1 (canon 4294967296 a.m)) (h2 : Ints w 0 w.heap.size .u32 A2 n2 (canon 4294967296 b.m)) (r : Dn) (code : Int) (h : addD a b = (r, code)) :
    Calls Tryd.prog 64 #[.agg #[.bool a.neg, .slice A1 n1 c1, .int .i64 a.e], .agg #[.bool b.neg, .slice A2 n2 c2, .int .i64 b.e]] w (Formed w r code) := by
  have hn1 := ints_may h1 ha
  have hn2 := ints_may h2 hb
  have ea : a.e ≤ 1024 := ha.2.1
  have eb : b.e ≤ 1024 := hb.2.1
  have ma := Lib.hid (dn_may ha)
  have mb := Lib.hid (dn_may hb)
  have H := Lib.hid h
  clear h
  obtain ⟨KX, hK⟩ : ∃ KX, max a.e b.e = KX := ⟨_, rfl⟩
  have kl : KX ≤ 1024 := by omega
  have ka : a.e ≤ KX := by omega
  have kb : b.e ≤ KX := by omega
  obtain ⟨x, hx⟩ : ∃ x, 2 ^ (KX - a.e) * a.m = x := ⟨_, rfl⟩
  obtain ⟨y, hy⟩ : ∃ y, 2 ^ (KX - b.e) * b.m = y := ⟨_, rfl⟩
  obtain ⟨s, v, hp⟩ : ∃ s v, plusS a.neg x b.neg y = (s, v) := ⟨_, _, rfl⟩
  have hf : formed s v KX = (r, code) := by
    have := H.out
    unfold addD at this
    rw [hK, Nat.mul_comm a.m, Nat.mul_comm b.m, hx, hy, hp] at this
    exact this
  obtain ⟨L, hL⟩ : ∃ L, L = 2400 := ⟨_, rfl⟩
  have hxl : x < 2 ^ L := by rw [← hx, Nat.mul_comm]; exact shift_len ha kl hL
  have hyl : y < 2 ^ L := by rw [← hy, Nat.mul_comm]; exact shift_len hb kl hL
  have hvl : (canon 2 v).length ≤ 2401 := by
    have h5 : v < 2 ^ (L + 1) := by
      have := plus_len hp
      rw [Nat.pow_succ]
      omega
    have := canon_len (by decide) h5
    omega
  have HX := Lib.hid hx
  have HY := Lib.hid hy
  have HP := Lib.hid hp
  have HF := Lib.hid hf
  have HVL := Lib.hid hvl
  clear hx hy hp hf hxl hyl hvl hL H ha hb
  generalize hw : ((w.alloc (.cells #[.bool a.neg, .slice A1 n1 c1, .int .i64 a.e] 24)).alloc (.cells #[.bool b.neg, .slice A2 n2 c2, .int .i64 b.e] 24)).alloc (.cells #[.bool false, .slice none 0 0, .int .i64 0] 24) = w1 at *
  obtain ⟨D1, D2, D3, b1, l1, l2⟩ := boxes3 w _ _ _ hw
  replace h1 := h1.below b1 (Nat.le_refl _)
  replace h2 := h2.below b1 (Nat.le_refl _)
  obtain ⟨⟨pD1, qD1, rD1⟩, uD1, vD1, xD1⟩ := boxD D1
  go_enter Tryd.func64, Tryd.ntmps64
  go_wp2_with fail
  try clear hw
  refine (rMay_ok w1 0 w.heap.size a.neg A1 n1 c1 _ a.e h1 (by omega) ma.out).mono ?_
  rintro e' w2 ⟨rfl, hB⟩
  clear pD1 qD1 rD1 uD1 vD1 xD1
  have lw2 : w1.heap.size ≤ w2.heap.size := hB.size
  replace h1 := h1.below hB (by omega)
  replace h2 := h2.below hB (by omega)
  replace D1 := (hB.block _ (by omega)).trans D1
  replace D2 := (hB.block _ (by omega)).trans D2
  replace D3 := (hB.block _ (by omega)).trans D3
  have c3 := b1.trans (hB.mono (by omega))
  clear hB
  obtain ⟨⟨pD2, qD2, rD2⟩, uD2, vD2, xD2⟩ := boxD D2
  go_wp2_with fail
  refine (rMay_ok w2 0 w.heap.size b.neg A2 n2 c2 _ b.e h2 (by omega) mb.out).mono ?_
  rintro e' w4 ⟨rfl, hB⟩
  clear pD2 qD2 rD2 uD2 vD2 xD2
  have lw4 : w2.heap.size ≤ w4.heap.size := hB.size
  replace h1 := h1.below hB (by omega)
  replace h2 := h2.below hB (by omega)
  replace D1 := (hB.block _ (by omega)).trans D1
  replace D2 := (hB.block _ (by omega)).trans D2
  replace D3 := (hB.block _ (by omega)).trans D3
  have c5 := c3.trans (hB.mono (by omega))
  clear hB
  obtain ⟨⟨pD1, qD1, rD1⟩, uD1, vD1, xD1⟩ := boxD D1
  obtain ⟨⟨pD2, qD2, rD2⟩, uD2, vD2, xD2⟩ := boxD D2
  have hkk := Lib.hid hK
  clear hK
  go_upto_region 3 with fail
  go_cut [6] from 16 to 23 (fun s6 wx => s6 = .int .i64 (KX : Int) ∧ w4 = wx)
  case first =>
    go_wp2_with fail
    all_goals
      go_meet
      exact ⟨by have := hkk.out; congr 1; omega, rfl⟩
  case rest =>
    obtain ⟨rfl, rfl⟩ := hcut
    clear pD1 qD1 rD1 uD1 vD1 xD1 pD2 qD2 rD2 uD2 vD2 xD2
    go_wp2_with fail
    have kD : Keeps w4 w4.drew := fun _ _ => rfl
    have hB : Below w4.heap.size w4 w4.drew := (Below.refl _ _).drew
    refine region_E (Keeps w4) [13] (m := 15) (L := #[false, false, false, false, false, false, false, false, false, false, false, false, false, false, false]) (by kernel_rfl) (by rfl) (by rfl) ?_
    generalize w4.drew = w6 at *
    have lw6 : w4.heap.size ≤ w6.heap.size := hB.size
    have sv_D1 := D1
    have sv_D2 := D2
    have sv_D3 := D3
    replace h1 := h1.below hB (by omega)
    replace h2 := h2.below hB (by omega)
    replace D1 := (hB.block _ (by omega)).trans D1
    replace D2 := (hB.block _ (by omega)).trans D2
    replace D3 := (hB.block _ (by omega)).trans D3
    have hB0 := hB
    clear hB
    refine pureE (i := 1) (L := #[false, true, false, false, false, false, false, false, false, false, false, false, false, false, false]) (v := ?_) rfl (by rfl) (by kernel_rfl) (by kernel_rfl) (by kernel_rfl) (fun _ _ _ h => h) (by rfl) ?hy1 ?rest1
    case hy1 => intro w; go_simp; (try with_reducible rfl)
    try simp only [Act.put, List.setIfInBounds_toArray, List.set_cons_zero, List.set_cons_succ]
    refine pureE (i := 4) (L := #[false, true, false, false, true, false, false, false, false, false, false, false, false, false, false]) (v := ?_) rfl (by rfl) (by kernel_rfl) (by kernel_rfl) (by kernel_rfl) (fun _ _ _ h => h) (by rfl) ?hy2 ?rest2
    case hy2 => intro w; go_simp; (try with_reducible rfl)
    try simp only [Act.put, List.setIfInBounds_toArray, List.set_cons_zero, List.set_cons_succ]
    refine pureE (i := 7) (L := #[false, true, false, false, true, false, false, true, false, false, false, false, false, false, false]) (v := ?_) rfl (by rfl) (by kernel_rfl) (by kernel_rfl) (by kernel_rfl) (fun _ _ _ h => h) (by rfl) ?hy3 ?rest3
    case hy3 => intro w; go_simp; (try with_reducible rfl)
    try simp only [Act.put, List.setIfInBounds_toArray, List.set_cons_zero, List.set_cons_succ]
    refine readE (i := 0) (L := #[true, true, false, false, true, false, false, true, false, false, false, false, false, false, false]) (v := .agg #[.bool a.neg, .slice A1 n1 c1, .int .i64 a.e]) rfl (by rfl) (by kernel_rfl) (by kernel_rfl) (by kernel_rfl) (fun _ _ _ h => h) (by assumption) (by rfl) ?hy0_1 ?rest0_1
    case hy0_1 =>
      intro w' h1
      obtain ⟨⟨k1, k2, k3⟩, _⟩ := boxD ((h1 _ (by omega)).trans sv_D1)
      go_simp
    try simp only [Act.put, List.setIfInBounds_toArray, List.set_cons_zero, List.set_cons_succ]
    refine readE (i := 3) (L := #[true, true, false, true, true, false, false, true, false, false, false, false, false, false, false]) (v := .agg #[.bool b.neg, .slice A2 n2 c2, .int .i64 b.e]) rfl (by rfl) (by kernel_rfl) (by kernel_rfl) (by kernel_rfl) (fun _ _ _ h => h) (by assumption) (by rfl) ?hy3_2 ?rest3_2
    case hy3_2 =>
      intro w' h1
      obtain ⟨⟨k1, k2, k3⟩, _⟩ := boxD ((h1 _ (by omega)).trans sv_D2)
      go_simp
    try simp only [Act.put, List.setIfInBounds_toArray, List.set_cons_zero, List.set_cons_succ]
    refine stepK2 (i := 2) (j := 12) (Li := #[true, true, true, true, true, false, false, true, false, false, false, false, false, false, false]) (Lj := #[true, true, false, true, true, false, false, true, false, false, false, false, true, false, false]) rfl rfl (by rfl) (by rfl) (by kernel_rfl) (by rfl) (by rfl) (fun K hK => ?o2_3) (fun K hK => ?o12_3)
    case o2_3 =>
      
      go_simp
      go_at_call 84
      refine (In_any w6 a.neg a.m a.e A1 n1 c1 (h1.more (Nat.zero_le _) (by omega)) hn1 KX ka (by omega) x HX.out KX rfl).mono ?_
      rintro e' w7 ⟨P1, i1, d1, rfl, lc1, ln1, hB, IN1⟩
      have lw7 : w6.heap.size ≤ w7.heap.size := hB.size
      replace h1 := h1.below hB (by omega)
      replace h2 := h2.below hB (by omega)
      replace D1 := (hB.block _ (by omega)).trans D1
      replace D2 := (hB.block _ (by omega)).trans D2
      replace D3 := (hB.block _ (by omega)).trans D3
      have c8 := hB0.trans (hB.mono (by omega))
      clear hB
      refine hK _ _ ⟨fun _ _ p hp => c8.block p hp, ?_⟩
      clear hK K
      try simp only [Act.put, List.setIfInBounds_toArray, List.set_cons_zero, List.set_cons_succ]
      refine stepK2 (i := 5) (j := 12) (Li := #[true, true, true, true, true, true, false, true, false, false, false, false, false, false, false]) (Lj := #[true, true, true, true, true, false, false, true, false, false, false, false, true, false, false]) rfl rfl (by rfl) (by rfl) (by kernel_rfl) (by rfl) (by rfl) (fun K hK => ?o5_4) (fun K hK => ?o12_4)
      case o5_4 =>
        
        go_simp
        go_at_call 84
        refine (In_any w7 b.neg b.m b.e A2 n2 c2 (h2.more (Nat.zero_le _) (by omega)) hn2 KX kb (by omega) y HY.out KX rfl).mono ?_
        rintro e' w9 ⟨P2, i2, d2, rfl, lc2, ln2, hB, IN2⟩
        have lw9 : w7.heap.size ≤ w9.heap.size := hB.size
        replace h1 := h1.below hB (by omega)
        replace h2 := h2.below hB (by omega)
        replace IN1 := IN1.below hB (by omega)
        replace D1 := (hB.block _ (by omega)).trans D1
        replace D2 := (hB.block _ (by omega)).trans D2
        replace D3 := (hB.block _ (by omega)).trans D3
        have c10 := c8.trans (hB.mono (by omega))
        clear hB
        refine hK _ _ ⟨fun _ _ p hp => c10.block p hp, ?_⟩
        clear hK K
        try simp only [Act.put, List.setIfInBounds_toArray, List.set_cons_zero, List.set_cons_succ]
        refine stepK2 (i := 6) (j := 12) (Li := #[true, true, true, true, true, true, true, true, false, false, false, false, false, false, false]) (Lj := #[true, true, true, true, true, true, false, true, false, false, false, false, true, false, false]) rfl rfl (by rfl) (by rfl) (by kernel_rfl) (by rfl) (by rfl) (fun K hK => ?o6_5) (fun K hK => ?o12_5)
        case o6_5 =>
          
          go_simp
          go_at_call 85
          refine (rPlus_any w9 a.neg b.neg x y P1 i1 d1 P2 i2 d2 (IN1.more (Nat.zero_le _) (by omega)) (IN2.more (Nat.zero_le _) (by omega)) ln1 ln2 s v HP.out).mono ?_
          rintro e' w11 ⟨P3, i3, d3, rfl, lc3, hB, IN3⟩
          have lw11 : w9.heap.size ≤ w11.heap.size := hB.size
          replace h1 := h1.below hB (by omega)
          replace h2 := h2.below hB (by omega)
          replace IN1 := IN1.below hB (by omega)
          replace IN2 := IN2.below hB (by omega)
          replace D1 := (hB.block _ (by omega)).trans D1
          replace D2 := (hB.block _ (by omega)).trans D2
          replace D3 := (hB.block _ (by omega)).trans D3
          have c12 := c10.trans (hB.mono (by omega))
          clear hB
          have hi3 : i3 ≤ 2401 := by have := IN3.len; have := HVL.out; omega
          refine hK _ _ ⟨fun _ _ p hp => c12.block p hp, ?_⟩
          clear hK K
          try simp only [Act.put, List.setIfInBounds_toArray, List.set_cons_zero, List.set_cons_succ]
          refine stepK2 (i := 8) (j := 12) (Li := #[true, true, true, true, true, true, true, true, true, false, false, false, false, false, false]) (Lj := #[true, true, true, true, true, true, true, true, false, false, false, false, true, false, false]) rfl rfl (by rfl) (by rfl) (by kernel_rfl) (by rfl) (by rfl) (fun K hK => ?o8_6) (fun K hK => ?o12_6)
          case o8_6 =>
            
            go_simp
            go_at_call 83
            refine (rFormed_any w11 s P3 i3 d3 _ (IN3.more (Nat.zero_le _) (by omega)) dig2 lc3 (by omega) KX (by omega) KX rfl v num2 r code HF.out).mono ?_
            rintro e' w13 ⟨P4, i4, d4, rfl, lc4, hB, IN4⟩
            have lw13 : w11.heap.size ≤ w13.heap.size := hB.size
            replace h1 := h1.below hB (by omega)
            replace h2 := h2.below hB (by omega)
            replace IN1 := IN1.below hB (by omega)
            replace IN2 := IN2.below hB (by omega)
            replace IN3 := IN3.below hB (by omega)
            replace D1 := (hB.block _ (by omega)).trans D1
            replace D2 := (hB.block _ (by omega)).trans D2
            replace D3 := (hB.block _ (by omega)).trans D3
            have c14 := c12.trans (hB.mono (by omega))
            clear hB
            refine hK _ _ ⟨fun _ _ p hp => c14.block p hp, ?_⟩
            clear hK K
            try simp only [Act.put, List.setIfInBounds_toArray, List.set_cons_zero, List.set_cons_succ]
            refine pureE (i := 9) (L := #[true, true, true, true, true, true, true, true, true, true, false, false, false, false, false]) (v := ?_) rfl (by rfl) (by kernel_rfl) (by kernel_rfl) (by kernel_rfl) (fun _ _ _ h => h) (by rfl) ?hy6 ?rest6
            case hy6 => intro w; go_simp; (try with_reducible rfl)
            try simp only [Act.put, List.setIfInBounds_toArray, List.set_cons_zero, List.set_cons_succ]
            refine pureE (i := 10) (L := #[true, true, true, true, true, true, true, true, true, true, true, false, false, false, false]) (v := ?_) rfl (by rfl) (by kernel_rfl) (by kernel_rfl) (by kernel_rfl) (fun _ _ _ h => h) (by rfl) ?hy7 ?rest7
            case hy7 => intro w; go_simp; (try with_reducible rfl)
            try simp only [Act.put, List.setIfInBounds_toArray, List.set_cons_zero, List.set_cons_succ]
            refine pureE (i := 11) (L := #[true, true, true, true, true, true, true, true, true, true, true, true, false, false, false]) (v := ?_) rfl (by rfl) (by kernel_rfl) (by kernel_rfl) (by kernel_rfl) (fun _ _ _ h => h) (by rfl) ?hy8 ?rest8
            case hy8 => intro w; go_simp; (try with_reducible rfl)
            try simp only [Act.put, List.setIfInBounds_toArray, List.set_cons_zero, List.set_cons_succ]
            refine stepK (i := 12) (L := #[true, true, true, true, true, true, true, true, true, true, true, true, true, false, false]) rfl (by rfl) (by kernel_rfl) (by rfl) (fun K hK => ?_)
            go_simp
            have hB := (Below.refl w13.heap.size w13).alloc (Nat.le_refl _) (.cells #[.bool false, .slice none 0 0, .int .i64 0] 24)
            have D4 := heap_alloc_last w13 (.cells #[.bool false, .slice none 0 0, .int .i64 0] 24)
            have mw15 : w13.heap.size < (w13.alloc (.cells #[.bool false, .slice none 0 0, .int .i64 0] 24)).heap.size := by simp
            generalize hw : w13.alloc (.cells #[.bool false, .slice none 0 0, .int .i64 0] 24) = w15 at *
            have lw15 : w13.heap.size ≤ w15.heap.size := hB.size
            replace h1 := h1.below hB (by omega)
            replace h2 := h2.below hB (by omega)
            replace IN1 := IN1.below hB (by omega)
            replace IN2 := IN2.below hB (by omega)
            replace IN3 := IN3.below hB (by omega)
            replace IN4 := IN4.below hB (by omega)
            replace D1 := (hB.block _ (by omega)).trans D1
            replace D2 := (hB.block _ (by omega)).trans D2
            replace D3 := (hB.block _ (by omega)).trans D3
            have c16 := c14.trans (hB.mono (by omega))
            clear hB
            try clear hw
            refine hK _ _ ⟨fun _ _ p hp => c16.block p hp, ?_⟩
            clear hK K
            try simp only [Act.put, List.setIfInBounds_toArray, List.set_cons_zero, List.set_cons_succ]
            refine stepK (i := 13) (L := #[true, true, true, true, true, true, true, true, true, true, true, true, true, true, false]) rfl (by rfl) (by kernel_rfl) (by rfl) (fun K hK => ?_)
            go_simp
            obtain ⟨⟨p1, p2, p3⟩, p4, p5, p6⟩ := boxD D4
            go_simp
            refine hK _ _ ⟨fun h => absurd h (by decide), ?_⟩
            clear hK K
            try simp only [Act.put, List.setIfInBounds_toArray, List.set_cons_zero, List.set_cons_succ]
            refine pureE (i := 14) (L := #[true, true, true, true, true, true, true, true, true, true, true, true, true, true, true]) (v := ?_) rfl (by rfl) (by kernel_rfl) (by kernel_rfl) (by kernel_rfl) (fun _ _ _ h => h) (by rfl) ?hy11 ?rest11
            case hy11 => intro w; go_simp; (try with_reducible rfl)
            try simp only [Act.put, List.setIfInBounds_toArray, List.set_cons_zero, List.set_cons_succ]
            refine doneE (by kernel_rfl) ?_ _
            clear p1 p2 p3 p4 p5 p6
            have q4 := box_put D4 (.bool r.neg) (.slice P4 i4 d4) (.int .i64 r.e)
            have d7 := below_put c16 (by omega : w4.heap.size ≤ w13.heap.size) (.bool r.neg) (.slice P4 i4 d4) (.int .i64 r.e)
            have J4 := ints_put IN4 (g := w13.heap.size) (by omega) (.bool r.neg) (.slice P4 i4 d4) (.int .i64 r.e)
            have s7 : w15.heap.size ≤ (((w15.setCell ⟨w13.heap.size, 0, none⟩ (.bool r.neg)).setCell ⟨w13.heap.size, 1, none⟩ (.slice P4 i4 d4)).setCell ⟨w13.heap.size, 2, none⟩ (.int .i64 r.e)).heap.size := by rw [size_put]; exact Nat.le_refl _
            generalize hw : ((w15.setCell ⟨w13.heap.size, 0, none⟩ (.bool r.neg)).setCell ⟨w13.heap.size, 1, none⟩ (.slice P4 i4 d4)).setCell ⟨w13.heap.size, 2, none⟩ (.int .i64 r.e) = w17 at *
            try clear hw
            have e8 := c5.trans (d7.mono (by omega))
            have X9 := (d7.block _ (by omega)).trans sv_D3
            obtain ⟨⟨p1, p2, p3⟩, p4, p5, p6⟩ := boxD q4
            obtain ⟨⟨z1, z2, z3⟩, z4, z5, z6⟩ := boxD X9
            go_wp2
            refine bodyPost_ret (v := .tuple #[.agg #[.bool r.neg, .slice P4 i4 d4, .int .i64 r.e], .int .i64 code]) (by simp [results, Tryd.results64, go_sem, z1, z2, z3]) rfl ⟨P4, i4, d4, rfl, lc4, ?_, ?_⟩
            · exact below_put e8 (by omega) _ _ _
            · exact (ints_put J4 (.inl (by omega)) _ _ _).more (by omega) (by rw [size_put]; omega)
          case o12_6 =>
            
            go_simp
            have hB := (Below.refl w11.heap.size w11).alloc (Nat.le_refl _) (.cells #[.bool false, .slice none 0 0, .int .i64 0] 24)
            have D4 := heap_alloc_last w11 (.cells #[.bool false, .slice none 0 0, .int .i64 0] 24)
            have mw18 : w11.heap.size < (w11.alloc (.cells #[.bool false, .slice none 0 0, .int .i64 0] 24)).heap.size := by simp
            generalize hw : w11.alloc (.cells #[.bool false, .slice none 0 0, .int .i64 0] 24) = w18 at *
            have lw18 : w11.heap.size ≤ w18.heap.size := hB.size
            replace h1 := h1.below hB (by omega)
            replace h2 := h2.below hB (by omega)
            replace IN1 := IN1.below hB (by omega)
            replace IN2 := IN2.below hB (by omega)
            replace IN3 := IN3.below hB (by omega)
            replace D1 := (hB.block _ (by omega)).trans D1
            replace D2 := (hB.block _ (by omega)).trans D2
            replace D3 := (hB.block _ (by omega)).trans D3
            have c19 := c12.trans (hB.mono (by omega))
            clear hB
            try clear hw
            refine hK _ _ ⟨fun _ _ p hp => c19.block p hp, ?_⟩
            clear hK K
            try simp only [Act.put, List.setIfInBounds_toArray, List.set_cons_zero, List.set_cons_succ]
            refine stepK (i := 8) (L := #[true, true, true, true, true, true, true, true, true, false, false, false, true, false, false]) rfl (by rfl) (by kernel_rfl) (by rfl) (fun K hK => ?_)
            go_simp
            go_at_call 83
            refine (rFormed_any w18 s P3 i3 d3 _ (IN3.more (Nat.zero_le _) (by omega)) dig2 lc3 (by omega) KX (by omega) KX rfl v num2 r code HF.out).mono ?_
            rintro e' w20 ⟨P4, i4, d4, rfl, lc4, hB, IN4⟩
            have lw20 : w18.heap.size ≤ w20.heap.size := hB.size
            replace h1 := h1.below hB (by omega)
            replace h2 := h2.below hB (by omega)
            replace IN1 := IN1.below hB (by omega)
            replace IN2 := IN2.below hB (by omega)
            replace IN3 := IN3.below hB (by omega)
            replace D1 := (hB.block _ (by omega)).trans D1
            replace D2 := (hB.block _ (by omega)).trans D2
            replace D3 := (hB.block _ (by omega)).trans D3
            replace D4 := (hB.block _ (by omega)).trans D4
            have c21 := c19.trans (hB.mono (by omega))
            clear hB
            refine hK _ _ ⟨fun _ _ p hp => c21.block p hp, ?_⟩
            clear hK K
            try simp only [Act.put, List.setIfInBounds_toArray, List.set_cons_zero, List.set_cons_succ]
            refine pureE (i := 9) (L := #[true, true, true, true, true, true, true, true, true, true, false, false, true, false, false]) (v := ?_) rfl (by rfl) (by kernel_rfl) (by kernel_rfl) (by kernel_rfl) (fun _ _ _ h => h) (by rfl) ?hy13 ?rest13
            case hy13 => intro w; go_simp; (try with_reducible rfl)
            try simp only [Act.put, List.setIfInBounds_toArray, List.set_cons_zero, List.set_cons_succ]
            refine pureE (i := 10) (L := #[true, true, true, true, true, true, true, true, true, true, true, false, true, false, false]) (v := ?_) rfl (by rfl) (by kernel_rfl) (by kernel_rfl) (by kernel_rfl) (fun _ _ _ h => h) (by rfl) ?hy14 ?rest14
            case hy14 => intro w; go_simp; (try with_reducible rfl)
            try simp only [Act.put, List.setIfInBounds_toArray, List.set_cons_zero, List.set_cons_succ]
            refine pureE (i := 11) (L := #[true, true, true, true, true, true, true, true, true, true, true, true, true, false, false]) (v := ?_) rfl (by rfl) (by kernel_rfl) (by kernel_rfl) (by kernel_rfl) (fun _ _ _ h => h) (by rfl) ?hy15 ?rest15
            case hy15 => intro w; go_simp; (try with_reducible rfl)
            try simp only [Act.put, List.setIfInBounds_toArray, List.set_cons_zero, List.set_cons_succ]
            refine stepK (i := 13) (L := #[true, true, true, true, true, true, true, true, true, true, true, true, true, true, false]) rfl (by rfl) (by kernel_rfl) (by rfl) (fun K hK => ?_)
            go_simp
            obtain ⟨⟨p1, p2, p3⟩, p4, p5, p6⟩ := boxD D4
            go_simp
            refine hK _ _ ⟨fun h => absurd h (by decide), ?_⟩
            clear hK K
            try simp only [Act.put, List.setIfInBounds_toArray, List.set_cons_zero, List.set_cons_succ]
            refine pureE (i := 14) (L := #[true, true, true, true, true, true, true, true, true, true, true, true, true, true, true]) (v := ?_) rfl (by rfl) (by kernel_rfl) (by kernel_rfl) (by kernel_rfl) (fun _ _ _ h => h) (by rfl) ?hy17 ?rest17
            case hy17 => intro w; go_simp; (try with_reducible rfl)
            try simp only [Act.put, List.setIfInBounds_toArray, List.set_cons_zero, List.set_cons_succ]
            refine doneE (by kernel_rfl) ?_ _
            clear p1 p2 p3 p4 p5 p6
            have q4 := box_put D4 (.bool r.neg) (.slice P4 i4 d4) (.int .i64 r.e)
            have d7 := below_put c21 (by omega : w4.heap.size ≤ w11.heap.size) (.bool r.neg) (.slice P4 i4 d4) (.int .i64 r.e)
            have J4 := ints_put IN4 (g := w11.heap.size) (by omega) (.bool r.neg) (.slice P4 i4 d4) (.int .i64 r.e)
            have s7 : w20.heap.size ≤ (((w20.setCell ⟨w11.heap.size, 0, none⟩ (.bool r.neg)).setCell ⟨w11.heap.size, 1, none⟩ (.slice P4 i4 d4)).setCell ⟨w11.heap.size, 2, none⟩ (.int .i64 r.e)).heap.size := by rw [size_put]; exact Nat.le_refl _
            generalize hw : ((w20.setCell ⟨w11.heap.size, 0, none⟩ (.bool r.neg)).setCell ⟨w11.heap.size, 1, none⟩ (.slice P4 i4 d4)).setCell ⟨w11.heap.size, 2, none⟩ (.int .i64 r.e) = w22 at *
            try clear hw
            have e8 := c5.trans (d7.mono (by omega))
            have X9 := (d7.block _ (by omega)).trans sv_D3
            obtain ⟨⟨p1, p2, p3⟩, p4, p5, p6⟩ := boxD q4
            obtain ⟨⟨z1, z2, z3⟩, z4, z5, z6⟩ := boxD X9
            go_wp2
            refine bodyPost_ret (v := .tuple #[.agg #[.bool r.neg, .slice P4 i4 d4, .int .i64 r.e], .int .i64 code]) (by simp [results, Tryd.results64, go_sem, z1, z2, z3]) rfl ⟨P4, i4, d4, rfl, lc4, ?_, ?_⟩
            · exact below_put e8 (by omega) _ _ _
            · exact (ints_put J4 (.inl (by omega)) _ _ _).more (by omega) (by rw [size_put]; omega)
        case o12_5 =>
          
          go_simp
          have hB := (Below.refl w9.heap.size w9).alloc (Nat.le_refl _) (.cells #[.bool false, .slice none 0 0, .int .i64 0] 24)
          have D4 := heap_alloc_last w9 (.cells #[.bool false, .slice none 0 0, .int .i64 0] 24)
          have mw23 : w9.heap.size < (w9.alloc (.cells #[.bool false, .slice none 0 0, .int .i64 0] 24)).heap.size := by simp
          generalize hw : w9.alloc (.cells #[.bool false, .slice none 0 0, .int .i64 0] 24) = w23 at *
          have lw23 : w9.heap.size ≤ w23.heap.size := hB.size
          replace h1 := h1.below hB (by omega)
          replace h2 := h2.below hB (by omega)
          replace IN1 := IN1.below hB (by omega)
          replace IN2 := IN2.below hB (by omega)
          replace D1 := (hB.block _ (by omega)).trans D1
          replace D2 := (hB.block _ (by omega)).trans D2
          replace D3 := (hB.block _ (by omega)).trans D3
          have c24 := c10.trans (hB.mono (by omega))
          clear hB
          try clear hw
          refine hK _ _ ⟨fun _ _ p hp => c24.block p hp, ?_⟩
          clear hK K
          try simp only [Act.put, List.setIfInBounds_toArray, List.set_cons_zero, List.set_cons_succ]
          refine stepK (i := 6) (L := #[true, true, true, true, true, true, true, true, false, false, false, false, true, false, false]) rfl (by rfl) (by kernel_rfl) (by rfl) (fun K hK => ?_)
          go_simp
          go_at_call 85
          refine (rPlus_any w23 a.neg b.neg x y P1 i1 d1 P2 i2 d2 (IN1.more (Nat.zero_le _) (by omega)) (IN2.more (Nat.zero_le _) (by omega)) ln1 ln2 s v HP.out).mono ?_
          rintro e' w25 ⟨P3, i3, d3, rfl, lc3, hB, IN3⟩
          have lw25 : w23.heap.size ≤ w25.heap.size := hB.size
          replace h1 := h1.below hB (by omega)
          replace h2 := h2.below hB (by omega)
          replace IN1 := IN1.below hB (by omega)
          replace IN2 := IN2.below hB (by omega)
          replace D1 := (hB.block _ (by omega)).trans D1
          replace D2 := (hB.block _ (by omega)).trans D2
          replace D3 := (hB.block _ (by omega)).trans D3
          replace D4 := (hB.block _ (by omega)).trans D4
          have c26 := c24.trans (hB.mono (by omega))
          clear hB
          have hi3 : i3 ≤ 2401 := by have := IN3.len; have := HVL.out; omega
          refine hK _ _ ⟨fun _ _ p hp => c26.block p hp, ?_⟩
          clear hK K
          try simp only [Act.put, List.setIfInBounds_toArray, List.set_cons_zero, List.set_cons_succ]
          refine stepK (i := 8) (L := #[true, true, true, true, true, true, true, true, true, false, false, false, true, false, false]) rfl (by rfl) (by kernel_rfl) (by rfl) (fun K hK => ?_)
          go_simp
          go_at_call 83
          refine (rFormed_any w25 s P3 i3 d3 _ (IN3.more (Nat.zero_le _) (by omega)) dig2 lc3 (by omega) KX (by omega) KX rfl v num2 r code HF.out).mono ?_
          rintro e' w27 ⟨P4, i4, d4, rfl, lc4, hB, IN4⟩
          have lw27 : w25.heap.size ≤ w27.heap.size := hB.size
          replace h1 := h1.below hB (by omega)
          replace h2 := h2.below hB (by omega)
          replace IN1 := IN1.below hB (by omega)
          replace IN2 := IN2.below hB (by omega)
          replace IN3 := IN3.below hB (by omega)
          replace D1 := (hB.block _ (by omega)).trans D1
          replace D2 := (hB.block _ (by omega)).trans D2
          replace D3 := (hB.block _ (by omega)).trans D3
          replace D4 := (hB.block _ (by omega)).trans D4
          have c28 := c26.trans (hB.mono (by omega))
          clear hB
          refine hK _ _ ⟨fun _ _ p hp => c28.block p hp, ?_⟩
          clear hK K
          try simp only [Act.put, List.setIfInBounds_toArray, List.set_cons_zero, List.set_cons_succ]
          refine pureE (i := 9) (L := #[true, true, true, true, true, true, true, true, true, true, false, false, true, false, false]) (v := ?_) rfl (by rfl) (by kernel_rfl) (by kernel_rfl) (by kernel_rfl) (fun _ _ _ h => h) (by rfl) ?hy20 ?rest20
          case hy20 => intro w; go_simp; (try with_reducible rfl)
          try simp only [Act.put, List.setIfInBounds_toArray, List.set_cons_zero, List.set_cons_succ]
          refine pureE (i := 10) (L := #[true, true, true, true, true, true, true, true, true, true, true, false, true, false, false]) (v := ?_) rfl (by rfl) (by kernel_rfl) (by kernel_rfl) (by kernel_rfl) (fun _ _ _ h => h) (by rfl) ?hy21 ?rest21
          case hy21 => intro w; go_simp; (try with_reducible rfl)
          try simp only [Act.put, List.setIfInBounds_toArray, List.set_cons_zero, List.set_cons_succ]
          refine pureE (i := 11) (L := #[true, true, true, true, true, true, true, true, true, true, true, true, true, false, false]) (v := ?_) rfl (by rfl) (by kernel_rfl) (by kernel_rfl) (by kernel_rfl) (fun _ _ _ h => h) (by rfl) ?hy22 ?rest22
          case hy22 => intro w; go_simp; (try with_reducible rfl)
          try simp only [Act.put, List.setIfInBounds_toArray, List.set_cons_zero, List.set_cons_succ]
          refine stepK (i := 13) (L := #[true, true, true, true, true, true, true, true, true, true, true, true, true, true, false]) rfl (by rfl) (by kernel_rfl) (by rfl) (fun K hK => ?_)
          go_simp
          obtain ⟨⟨p1, p2, p3⟩, p4, p5, p6⟩ := boxD D4
          go_simp
          refine hK _ _ ⟨fun h => absurd h (by decide), ?_⟩
          clear hK K
          try simp only [Act.put, List.setIfInBounds_toArray, List.set_cons_zero, List.set_cons_succ]
          refine pureE (i := 14) (L := #[true, true, true, true, true, true, true, true, true, true, true, true, true, true, true]) (v := ?_) rfl (by rfl) (by kernel_rfl) (by kernel_rfl) (by kernel_rfl) (fun _ _ _ h => h) (by rfl) ?hy24 ?rest24
          case hy24 => intro w; go_simp; (try with_reducible rfl)
          try simp only [Act.put, List.setIfInBounds_toArray, List.set_cons_zero, List.set_cons_succ]
          refine doneE (by kernel_rfl) ?_ _
          clear p1 p2 p3 p4 p5 p6
          have q4 := box_put D4 (.bool r.neg) (.slice P4 i4 d4) (.int .i64 r.e)
          have d7 := below_put c28 (by omega : w4.heap.size ≤ w9.heap.size) (.bool r.neg) (.slice P4 i4 d4) (.int .i64 r.e)
          have J4 := ints_put IN4 (g := w9.heap.size) (by omega) (.bool r.neg) (.slice P4 i4 d4) (.int .i64 r.e)
          have s7 : w27.heap.size ≤ (((w27.setCell ⟨w9.heap.size, 0, none⟩ (.bool r.neg)).setCell ⟨w9.heap.size, 1, none⟩ (.slice P4 i4 d4)).setCell ⟨w9.heap.size, 2, none⟩ (.int .i64 r.e)).heap.size := by rw [size_put]; exact Nat.le_refl _
          generalize hw : ((w27.setCell ⟨w9.heap.size, 0, none⟩ (.bool r.neg)).setCell ⟨w9.heap.size, 1, none⟩ (.slice P4 i4 d4)).setCell ⟨w9.heap.size, 2, none⟩ (.int .i64 r.e) = w29 at *
          try clear hw
          have e8 := c5.trans (d7.mono (by omega))
          have X9 := (d7.block _ (by omega)).trans sv_D3
          obtain ⟨⟨p1, p2, p3⟩, p4, p5, p6⟩ := boxD q4
          obtain ⟨⟨z1, z2, z3⟩, z4, z5, z6⟩ := boxD X9
          go_wp2
          refine bodyPost_ret (v := .tuple #[.agg #[.bool r.neg, .slice P4 i4 d4, .int .i64 r.e], .int .i64 code]) (by simp [results, Tryd.results64, go_sem, z1, z2, z3]) rfl ⟨P4, i4, d4, rfl, lc4, ?_, ?_⟩
          · exact below_put e8 (by omega) _ _ _
          · exact (ints_put J4 (.inl (by omega)) _ _ _).more (by omega) (by rw [size_put]; omega)
      case o12_4 =>
        
        go_simp
        have hB := (Below.refl w7.heap.size w7).alloc (Nat.le_refl _) (.cells #[.bool false, .slice none 0 0, .int .i64 0] 24)
        have D4 := heap_alloc_last w7 (.cells #[.bool false, .slice none 0 0, .int .i64 0] 24)
        have mw30 : w7.heap.size < (w7.alloc (.cells #[.bool false, .slice none 0 0, .int .i64 0] 24)).heap.size := by simp
        generalize hw : w7.alloc (.cells #[.bool false, .slice none 0 0, .int .i64 0] 24) = w30 at *
        have lw30 : w7.heap.size ≤ w30.heap.size := hB.size
        replace h1 := h1.below hB (by omega)
        replace h2 := h2.below hB (by omega)
        replace IN1 := IN1.below hB (by omega)
        replace D1 := (hB.block _ (by omega)).trans D1
        replace D2 := (hB.block _ (by omega)).trans D2
        replace D3 := (hB.block _ (by omega)).trans D3
        have c31 := c8.trans (hB.mono (by omega))
        clear hB
        try clear hw
        refine hK _ _ ⟨fun _ _ p hp => c31.block p hp, ?_⟩
        clear hK K
        try simp only [Act.put, List.setIfInBounds_toArray, List.set_cons_zero, List.set_cons_succ]
        refine stepK (i := 5) (L := #[true, true, true, true, true, true, false, true, false, false, false, false, true, false, false]) rfl (by rfl) (by kernel_rfl) (by rfl) (fun K hK => ?_)
        go_simp
        go_at_call 84
        refine (In_any w30 b.neg b.m b.e A2 n2 c2 (h2.more (Nat.zero_le _) (by omega)) hn2 KX kb (by omega) y HY.out KX rfl).mono ?_
        rintro e' w32 ⟨P2, i2, d2, rfl, lc2, ln2, hB, IN2⟩
        have lw32 : w30.heap.size ≤ w32.heap.size := hB.size
        replace h1 := h1.below hB (by omega)
        replace h2 := h2.below hB (by omega)
        replace IN1 := IN1.below hB (by omega)
        replace D1 := (hB.block _ (by omega)).trans D1
        replace D2 := (hB.block _ (by omega)).trans D2
        replace D3 := (hB.block _ (by omega)).trans D3
        replace D4 := (hB.block _ (by omega)).trans D4
        have c33 := c31.trans (hB.mono (by omega))
        clear hB
        refine hK _ _ ⟨fun _ _ p hp => c33.block p hp, ?_⟩
        clear hK K
        try simp only [Act.put, List.setIfInBounds_toArray, List.set_cons_zero, List.set_cons_succ]
        refine stepK (i := 6) (L := #[true, true, true, true, true, true, true, true, false, false, false, false, true, false, false]) rfl (by rfl) (by kernel_rfl) (by rfl) (fun K hK => ?_)
        go_simp
        go_at_call 85
        refine (rPlus_any w32 a.neg b.neg x y P1 i1 d1 P2 i2 d2 (IN1.more (Nat.zero_le _) (by omega)) (IN2.more (Nat.zero_le _) (by omega)) ln1 ln2 s v HP.out).mono ?_
        rintro e' w34 ⟨P3, i3, d3, rfl, lc3, hB, IN3⟩
        have lw34 : w32.heap.size ≤ w34.heap.size := hB.size
        replace h1 := h1.below hB (by omega)
        replace h2 := h2.below hB (by omega)
        replace IN1 := IN1.below hB (by omega)
        replace IN2 := IN2.below hB (by omega)
        replace D1 := (hB.block _ (by omega)).trans D1
        replace D2 := (hB.block _ (by omega)).trans D2
        replace D3 := (hB.block _ (by omega)).trans D3
        replace D4 := (hB.block _ (by omega)).trans D4
        have c35 := c33.trans (hB.mono (by omega))
        clear hB
        have hi3 : i3 ≤ 2401 := by have := IN3.len; have := HVL.out; omega
        refine hK _ _ ⟨fun _ _ p hp => c35.block p hp, ?_⟩
        clear hK K
        try simp only [Act.put, List.setIfInBounds_toArray, List.set_cons_zero, List.set_cons_succ]
        refine stepK (i := 8) (L := #[true, true, true, true, true, true, true, true, true, false, false, false, true, false, false]) rfl (by rfl) (by kernel_rfl) (by rfl) (fun K hK => ?_)
        go_simp
        go_at_call 83
        refine (rFormed_any w34 s P3 i3 d3 _ (IN3.more (Nat.zero_le _) (by omega)) dig2 lc3 (by omega) KX (by omega) KX rfl v num2 r code HF.out).mono ?_
        rintro e' w36 ⟨P4, i4, d4, rfl, lc4, hB, IN4⟩
        have lw36 : w34.heap.size ≤ w36.heap.size := hB.size
        replace h1 := h1.below hB (by omega)
        replace h2 := h2.below hB (by omega)
        replace IN1 := IN1.below hB (by omega)
        replace IN2 := IN2.below hB (by omega)
        replace IN3 := IN3.below hB (by omega)
        replace D1 := (hB.block _ (by omega)).trans D1
        replace D2 := (hB.block _ (by omega)).trans D2
        replace D3 := (hB.block _ (by omega)).trans D3
        replace D4 := (hB.block _ (by omega)).trans D4
        have c37 := c35.trans (hB.mono (by omega))
        clear hB
        refine hK _ _ ⟨fun _ _ p hp => c37.block p hp, ?_⟩
        clear hK K
        try simp only [Act.put, List.setIfInBounds_toArray, List.set_cons_zero, List.set_cons_succ]
        refine pureE (i := 9) (L := #[true, true, true, true, true, true, true, true, true, true, false, false, true, false, false]) (v := ?_) rfl (by rfl) (by kernel_rfl) (by kernel_rfl) (by kernel_rfl) (fun _ _ _ h => h) (by rfl) ?hy28 ?rest28
        case hy28 => intro w; go_simp; (try with_reducible rfl)
        try simp only [Act.put, List.setIfInBounds_toArray, List.set_cons_zero, List.set_cons_succ]
        refine pureE (i := 10) (L := #[true, true, true, true, true, true, true, true, true, true, true, false, true, false, false]) (v := ?_) rfl (by rfl) (by kernel_rfl) (by kernel_rfl) (by kernel_rfl) (fun _ _ _ h => h) (by rfl) ?hy29 ?rest29
        case hy29 => intro w; go_simp; (try with_reducible rfl)
        try simp only [Act.put, List.setIfInBounds_toArray, List.set_cons_zero, List.set_cons_succ]
        refine pureE (i := 11) (L := #[true, true, true, true, true, true, true, true, true, true, true, true, true, false, false]) (v := ?_) rfl (by rfl) (by kernel_rfl) (by kernel_rfl) (by kernel_rfl) (fun _ _ _ h => h) (by rfl) ?hy30 ?rest30
        case hy30 => intro w; go_simp; (try with_reducible rfl)
        try simp only [Act.put, List.setIfInBounds_toArray, List.set_cons_zero, List.set_cons_succ]
        refine stepK (i := 13) (L := #[true, true, true, true, true, true, true, true, true, true, true, true, true, true, false]) rfl (by rfl) (by kernel_rfl) (by rfl) (fun K hK => ?_)
        go_simp
        obtain ⟨⟨p1, p2, p3⟩, p4, p5, p6⟩ := boxD D4
        go_simp
        refine hK _ _ ⟨fun h => absurd h (by decide), ?_⟩
        clear hK K
        try simp only [Act.put, List.setIfInBounds_toArray, List.set_cons_zero, List.set_cons_succ]
        refine pureE (i := 14) (L := #[true, true, true, true, true, true, true, true, true, true, true, true, true, true, true]) (v := ?_) rfl (by rfl) (by kernel_rfl) (by kernel_rfl) (by kernel_rfl) (fun _ _ _ h => h) (by rfl) ?hy32 ?rest32
        case hy32 => intro w; go_simp; (try with_reducible rfl)
        try simp only [Act.put, List.setIfInBounds_toArray, List.set_cons_zero, List.set_cons_succ]
        refine doneE (by kernel_rfl) ?_ _
        clear p1 p2 p3 p4 p5 p6
        have q4 := box_put D4 (.bool r.neg) (.slice P4 i4 d4) (.int .i64 r.e)
        have d7 := below_put c37 (by omega : w4.heap.size ≤ w7.heap.size) (.bool r.neg) (.slice P4 i4 d4) (.int .i64 r.e)
        have J4 := ints_put IN4 (g := w7.heap.size) (by omega) (.bool r.neg) (.slice P4 i4 d4) (.int .i64 r.e)
        have s7 : w36.heap.size ≤ (((w36.setCell ⟨w7.heap.size, 0, none⟩ (.bool r.neg)).setCell ⟨w7.heap.size, 1, none⟩ (.slice P4 i4 d4)).setCell ⟨w7.heap.size, 2, none⟩ (.int .i64 r.e)).heap.size := by rw [size_put]; exact Nat.le_refl _
        generalize hw : ((w36.setCell ⟨w7.heap.size, 0, none⟩ (.bool r.neg)).setCell ⟨w7.heap.size, 1, none⟩ (.slice P4 i4 d4)).setCell ⟨w7.heap.size, 2, none⟩ (.int .i64 r.e) = w38 at *
        try clear hw
        have e8 := c5.trans (d7.mono (by omega))
        have X9 := (d7.block _ (by omega)).trans sv_D3
        obtain ⟨⟨p1, p2, p3⟩, p4, p5, p6⟩ := boxD q4
        obtain ⟨⟨z1, z2, z3⟩, z4, z5, z6⟩ := boxD X9
        go_wp2
        refine bodyPost_ret (v := .tuple #[.agg #[.bool r.neg, .slice P4 i4 d4, .int .i64 r.e], .int .i64 code]) (by simp [results, Tryd.results64, go_sem, z1, z2, z3]) rfl ⟨P4, i4, d4, rfl, lc4, ?_, ?_⟩
        · exact below_put e8 (by omega) _ _ _
        · exact (ints_put J4 (.inl (by omega)) _ _ _).more (by omega) (by rw [size_put]; omega)
    case o12_3 =>
      
      go_simp
      have hB := (Below.refl w6.heap.size w6).alloc (Nat.le_refl _) (.cells #[.bool false, .slice none 0 0, .int .i64 0] 24)
      have D4 := heap_alloc_last w6 (.cells #[.bool false, .slice none 0 0, .int .i64 0] 24)
      have mw39 : w6.heap.size < (w6.alloc (.cells #[.bool false, .slice none 0 0, .int .i64 0] 24)).heap.size := by simp
      generalize hw : w6.alloc (.cells #[.bool false, .slice none 0 0, .int .i64 0] 24) = w39 at *
      have lw39 : w6.heap.size ≤ w39.heap.size := hB.size
      replace h1 := h1.below hB (by omega)
      replace h2 := h2.below hB (by omega)
      replace D1 := (hB.block _ (by omega)).trans D1
      replace D2 := (hB.block _ (by omega)).trans D2
      replace D3 := (hB.block _ (by omega)).trans D3
      have c40 := hB0.trans (hB.mono (by omega))
      clear hB
      try clear hw
      refine hK _ _ ⟨fun _ _ p hp => c40.block p hp, ?_⟩
      clear hK K
      try simp only [Act.put, List.setIfInBounds_toArray, List.set_cons_zero, List.set_cons_succ]
      refine stepK (i := 2) (L := #[true, true, true, true, true, false, false, true, false, false, false, false, true, false, false]) rfl (by rfl) (by kernel_rfl) (by rfl) (fun K hK => ?_)
      go_simp
      go_at_call 84
      refine (In_any w39 a.neg a.m a.e A1 n1 c1 (h1.more (Nat.zero_le _) (by omega)) hn1 KX ka (by omega) x HX.out KX rfl).mono ?_
      rintro e' w41 ⟨P1, i1, d1, rfl, lc1, ln1, hB, IN1⟩
      have lw41 : w39.heap.size ≤ w41.heap.size := hB.size
      replace h1 := h1.below hB (by omega)
      replace h2 := h2.below hB (by omega)
      replace D1 := (hB.block _ (by omega)).trans D1
      replace D2 := (hB.block _ (by omega)).trans D2
      replace D3 := (hB.block _ (by omega)).trans D3
      replace D4 := (hB.block _ (by omega)).trans D4
      have c42 := c40.trans (hB.mono (by omega))
      clear hB
      refine hK _ _ ⟨fun _ _ p hp => c42.block p hp, ?_⟩
      clear hK K
      try simp only [Act.put, List.setIfInBounds_toArray, List.set_cons_zero, List.set_cons_succ]
      refine stepK (i := 5) (L := #[true, true, true, true, true, true, false, true, false, false, false, false, true, false, false]) rfl (by rfl) (by kernel_rfl) (by rfl) (fun K hK => ?_)
      go_simp
      go_at_call 84
      refine (In_any w41 b.neg b.m b.e A2 n2 c2 (h2.more (Nat.zero_le _) (by omega)) hn2 KX kb (by omega) y HY.out KX rfl).mono ?_
      rintro e' w43 ⟨P2, i2, d2, rfl, lc2, ln2, hB, IN2⟩
      have lw43 : w41.heap.size ≤ w43.heap.size := hB.size
      replace h1 := h1.below hB (by omega)
      replace h2 := h2.below hB (by omega)
      replace IN1 := IN1.below hB (by omega)
      replace D1 := (hB.block _ (by omega)).trans D1
      replace D2 := (hB.block _ (by omega)).trans D2
      replace D3 := (hB.block _ (by omega)).trans D3
      replace D4 := (hB.block _ (by omega)).trans D4
      have c44 := c42.trans (hB.mono (by omega))
      clear hB
      refine hK _ _ ⟨fun _ _ p hp => c44.block p hp, ?_⟩
      clear hK K
      try simp only [Act.put, List.setIfInBounds_toArray, List.set_cons_zero, List.set_cons_succ]
      refine stepK (i := 6) (L := #[true, true, true, true, true, true, true, true, false, false, false, false, true, false, false]) rfl (by rfl) (by kernel_rfl) (by rfl) (fun K hK => ?_)
      go_simp
      go_at_call 85
      refine (rPlus_any w43 a.neg b.neg x y P1 i1 d1 P2 i2 d2 (IN1.more (Nat.zero_le _) (by omega)) (IN2.more (Nat.zero_le _) (by omega)) ln1 ln2 s v HP.out).mono ?_
      rintro e' w45 ⟨P3, i3, d3, rfl, lc3, hB, IN3⟩
      have lw45 : w43.heap.size ≤ w45.heap.size := hB.size
      replace h1 := h1.below hB (by omega)
      replace h2 := h2.below hB (by omega)
      replace IN1 := IN1.below hB (by omega)
      replace IN2 := IN2.below hB (by omega)
      replace D1 := (hB.block _ (by omega)).trans D1
      replace D2 := (hB.block _ (by omega)).trans D2
      replace D3 := (hB.block _ (by omega)).trans D3
      replace D4 := (hB.block _ (by omega)).trans D4
      have c46 := c44.trans (hB.mono (by omega))
      clear hB
      have hi3 : i3 ≤ 2401 := by have := IN3.len; have := HVL.out; omega
      refine hK _ _ ⟨fun _ _ p hp => c46.block p hp, ?_⟩
      clear hK K
      try simp only [Act.put, List.setIfInBounds_toArray, List.set_cons_zero, List.set_cons_succ]
      refine stepK (i := 8) (L := #[true, true, true, true, true, true, true, true, true, false, false, false, true, false, false]) rfl (by rfl) (by kernel_rfl) (by rfl) (fun K hK => ?_)
      go_simp
      go_at_call 83
      refine (rFormed_any w45 s P3 i3 d3 _ (IN3.more (Nat.zero_le _) (by omega)) dig2 lc3 (by omega) KX (by omega) KX rfl v num2 r code HF.out).mono ?_
      rintro e' w47 ⟨P4, i4, d4, rfl, lc4, hB, IN4⟩
      have lw47 : w45.heap.size ≤ w47.heap.size := hB.size
      replace h1 := h1.below hB (by omega)
      replace h2 := h2.below hB (by omega)
      replace IN1 := IN1.below hB (by omega)
      replace IN2 := IN2.below hB (by omega)
      replace IN3 := IN3.below hB (by omega)
      replace D1 := (hB.block _ (by omega)).trans D1
      replace D2 := (hB.block _ (by omega)).trans D2
      replace D3 := (hB.block _ (by omega)).trans D3
      replace D4 := (hB.block _ (by omega)).trans D4
      have c48 := c46.trans (hB.mono (by omega))
      clear hB
      refine hK _ _ ⟨fun _ _ p hp => c48.block p hp, ?_⟩
      clear hK K
      try simp only [Act.put, List.setIfInBounds_toArray, List.set_cons_zero, List.set_cons_succ]
      refine pureE (i := 9) (L := #[true, true, true, true, true, true, true, true, true, true, false, false, true, false, false]) (v := ?_) rfl (by rfl) (by kernel_rfl) (by kernel_rfl) (by kernel_rfl) (fun _ _ _ h => h) (by rfl) ?hy37 ?rest37
      case hy37 => intro w; go_simp; (try with_reducible rfl)
      try simp only [Act.put, List.setIfInBounds_toArray, List.set_cons_zero, List.set_cons_succ]
      refine pureE (i := 10) (L := #[true, true, true, true, true, true, true, true, true, true, true, false, true, false, false]) (v := ?_) rfl (by rfl) (by kernel_rfl) (by kernel_rfl) (by kernel_rfl) (fun _ _ _ h => h) (by rfl) ?hy38 ?rest38
      case hy38 => intro w; go_simp; (try with_reducible rfl)
      try simp only [Act.put, List.setIfInBounds_toArray, List.set_cons_zero, List.set_cons_succ]
      refine pureE (i := 11) (L := #[true, true, true, true, true, true, true, true, true, true, true, true, true, false, false]) (v := ?_) rfl (by rfl) (by kernel_rfl) (by kernel_rfl) (by kernel_rfl) (fun _ _ _ h => h) (by rfl) ?hy39 ?rest39
      case hy39 => intro w; go_simp; (try with_reducible rfl)
      try simp only [Act.put, List.setIfInBounds_toArray, List.set_cons_zero, List.set_cons_succ]
      refine stepK (i := 13) (L := #[true, true, true, true, true, true, true, true, true, true, true, true, true, true, false]) rfl (by rfl) (by kernel_rfl) (by rfl) (fun K hK => ?_)
      go_simp
      obtain ⟨⟨p1, p2, p3⟩, p4, p5, p6⟩ := boxD D4
      go_simp
      refine hK _ _ ⟨fun h => absurd h (by decide), ?_⟩
      clear hK K
      try simp only [Act.put, List.setIfInBounds_toArray, List.set_cons_zero, List.set_cons_succ]
      refine pureE (i := 14) (L := #[true, true, true, true, true, true, true, true, true, true, true, true, true, true, true]) (v := ?_) rfl (by rfl) (by kernel_rfl) (by kernel_rfl) (by kernel_rfl) (fun _ _ _ h => h) (by rfl) ?hy41 ?rest41
      case hy41 => intro w; go_simp; (try with_reducible rfl)
      try simp only [Act.put, List.setIfInBounds_toArray, List.set_cons_zero, List.set_cons_succ]
      refine doneE (by kernel_rfl) ?_ _
      clear p1 p2 p3 p4 p5 p6
      have q4 := box_put D4 (.bool r.neg) (.slice P4 i4 d4) (.int .i64 r.e)
      have d7 := below_put c48 (by omega : w4.heap.size ≤ w6.heap.size) (.bool r.neg) (.slice P4 i4 d4) (.int .i64 r.e)
      have J4 := ints_put IN4 (g := w6.heap.size) (by omega) (.bool r.neg) (.slice P4 i4 d4) (.int .i64 r.e)
      have s7 : w47.heap.size ≤ (((w47.setCell ⟨w6.heap.size, 0, none⟩ (.bool r.neg)).setCell ⟨w6.heap.size, 1, none⟩ (.slice P4 i4 d4)).setCell ⟨w6.heap.size, 2, none⟩ (.int .i64 r.e)).heap.size := by rw [size_put]; exact Nat.le_refl _
      generalize hw : ((w47.setCell ⟨w6.heap.size, 0, none⟩ (.bool r.neg)).setCell ⟨w6.heap.size, 1, none⟩ (.slice P4 i4 d4)).setCell ⟨w6.heap.size, 2, none⟩ (.int .i64 r.e) = w49 at *
      try clear hw
      have e8 := c5.trans (d7.mono (by omega))
      have X9 := (d7.block _ (by omega)).trans sv_D3
      obtain ⟨⟨p1, p2, p3⟩, p4, p5, p6⟩ := boxD q4
      obtain ⟨⟨z1, z2, z3⟩, z4, z5, z6⟩ := boxD X9
      go_wp2
      refine bodyPost_ret (v := .tuple #[.agg #[.bool r.neg, .slice P4 i4 d4, .int .i64 r.e], .int .i64 code]) (by simp [results, Tryd.results64, go_sem, z1, z2, z3]) rfl ⟨P4, i4, d4, rfl, lc4, ?_, ?_⟩
      · exact below_put e8 (by omega) _ _ _
      · exact (ints_put J4 (.inl (by omega)) _ _ _).more (by omega) (by rw [size_put]; omega)
end Dy
end Go.Proofs.YtbbnbgllgomolaaDoor
namespace Go.Proofs.YtbbnbgllgomolaaDoor
open Go.RowKit
namespace Dy
open Dp
set_option maxHeartbeats 3200000 in
set_option maxRecDepth 100000 in
theorem rAdd_bad (w : World) (s1 s2 : Bool) (A1 A2 : Option Addr) (n1 c1 n2 c2 : Nat) (xs1 xs2 : List Int) (e1 e2 : Int) (h1 : Ints w 0 w.heap.size .u32 A1 n1 xs1) (h2 : Ints w 0 w.heap.size .u32 A2 n2 xs2) (h : ¬ MayD s1 xs1 e1 ∨ ¬ MayD s2 xs2 e2) :
    Calls Tryd.prog 64 #[.agg #[.bool s1, .slice A1 n1 c1, .int .i64 e1], .agg #[.bool s2, .slice A2 n2 c2, .int .i64 e2]] w (Bad w) := by
  generalize hw : ((w.alloc (.cells #[.bool s1, .slice A1 n1 c1, .int .i64 e1] 24)).alloc (.cells #[.bool s2, .slice A2 n2 c2, .int .i64 e2] 24)).alloc (.cells #[.bool false, .slice none 0 0, .int .i64 0] 24) = w1 at *
  obtain ⟨D1, D2, D3, b1, l1, l2⟩ := boxes3 w _ _ _ hw
  replace h1 := h1.below b1 (Nat.le_refl _)
  replace h2 := h2.below b1 (Nat.le_refl _)
  by_cases m1 : MayD s1 xs1 e1
  · have m2 := Lib.hid (h.resolve_left (fun k => k m1))
    have M1 := Lib.hid m1
    clear h m1
    obtain ⟨⟨pD1, qD1, rD1⟩, uD1, vD1, xD1⟩ := boxD D1
    go_enter Tryd.func64, Tryd.ntmps64
    go_wp2_with fail
    try clear hw
    refine (rMay_ok w1 0 w.heap.size s1 A1 n1 c1 _ e1 h1 (by omega) M1.out).mono ?_
    rintro e' w2 ⟨rfl, hB⟩
    clear pD1 qD1 rD1 uD1 vD1 xD1
    have lw2 : w1.heap.size ≤ w2.heap.size := hB.size
    replace h1 := h1.below hB (by omega)
    replace h2 := h2.below hB (by omega)
    replace D1 := (hB.block _ (by omega)).trans D1
    replace D2 := (hB.block _ (by omega)).trans D2
    replace D3 := (hB.block _ (by omega)).trans D3
    have c3 := b1.trans (hB.mono (by omega))
    clear hB
    obtain ⟨⟨pD2, qD2, rD2⟩, uD2, vD2, xD2⟩ := boxD D2
    go_wp2_with fail
    refine (rMay_bad w2 0 w.heap.size s2 A2 n2 c2 _ e2 h2 (by omega) m2.out).mono ?_
    rintro e' w4 ⟨rfl, hB⟩
    clear pD2 qD2 rD2 uD2 vD2 xD2
    have lw4 : w2.heap.size ≤ w4.heap.size := hB.size
    replace h1 := h1.below hB (by omega)
    replace h2 := h2.below hB (by omega)
    replace D1 := (hB.block _ (by omega)).trans D1
    replace D2 := (hB.block _ (by omega)).trans D2
    replace D3 := (hB.block _ (by omega)).trans D3
    have c5 := c3.trans (hB.mono (by omega))
    clear hB
    obtain ⟨⟨z1, z2, z3⟩, z4, z5, z6⟩ := boxD D3
    go_wp2
    exact bodyPost_ret (v := .tuple #[.agg #[.bool false, .slice none 0 0, .int .i64 0], .int .i64 8]) (by simp [results, Tryd.results64, go_sem, z1, z2, z3]) rfl ⟨rfl, below_put c5 (by omega) _ _ _⟩
  · have M1 := Lib.hid m1
    clear h m1
    obtain ⟨⟨pD1, qD1, rD1⟩, uD1, vD1, xD1⟩ := boxD D1
    go_enter Tryd.func64, Tryd.ntmps64
    go_wp2_with fail
    try clear hw
    refine (rMay_bad w1 0 w.heap.size s1 A1 n1 c1 _ e1 h1 (by omega) M1.out).mono ?_
    rintro e' w2 ⟨rfl, hB⟩
    clear pD1 qD1 rD1 uD1 vD1 xD1
    have lw2 : w1.heap.size ≤ w2.heap.size := hB.size
    replace h1 := h1.below hB (by omega)
    replace h2 := h2.below hB (by omega)
    replace D1 := (hB.block _ (by omega)).trans D1
    replace D2 := (hB.block _ (by omega)).trans D2
    replace D3 := (hB.block _ (by omega)).trans D3
    have c3 := b1.trans (hB.mono (by omega))
    clear hB
    obtain ⟨⟨z1, z2, z3⟩, z4, z5, z6⟩ := boxD D3
    go_wp2
    exact bodyPost_ret (v := .tuple #[.agg #[.bool false, .slice none 0 0, .int .i64 0], .int .i64 8]) (by simp [results, Tryd.results64, go_sem, z1, z2, z3]) rfl ⟨rfl, below_put c3 (by omega) _ _ _⟩
set_option maxHeartbeats 3200000 in
set_option maxRecDepth 100000 in
theorem rHalf_bad (w : World) (s1 : Bool) (A1 : Option Addr) (n1 c1 : Nat) (xs1 : List Int) (e1 : Int) (h1 : Ints w 0 w.heap.size .u32 A1 n1 xs1) (h : ¬ MayD s1 xs1 e1) :
    Calls Tryd.prog 62 #[.agg #[.bool s1, .slice A1 n1 c1, .int .i64 e1]] w (Bad w) := by
  generalize hw : (w.alloc (.cells #[.bool s1, .slice A1 n1 c1, .int .i64 e1] 24)).alloc (.cells #[.bool false, .slice none 0 0, .int .i64 0] 24) = w1 at *
  obtain ⟨D1, D2, b1, l1, l2⟩ := boxes2 w _ _ hw
  replace h1 := h1.below b1 (Nat.le_refl _)
  have M1 := Lib.hid h
  clear h
  obtain ⟨⟨pD1, qD1, rD1⟩, uD1, vD1, xD1⟩ := boxD D1
  go_enter Tryd.func62, Tryd.ntmps62
  go_wp2_with fail
  try clear hw
  refine (rMay_bad w1 0 w.heap.size s1 A1 n1 c1 _ e1 h1 (by omega) M1.out).mono ?_
  rintro e' w2 ⟨rfl, hB⟩
  clear pD1 qD1 rD1 uD1 vD1 xD1
  have lw2 : w1.heap.size ≤ w2.heap.size := hB.size
  replace h1 := h1.below hB (by omega)
  replace D1 := (hB.block _ (by omega)).trans D1
  replace D2 := (hB.block _ (by omega)).trans D2
  have c3 := b1.trans (hB.mono (by omega))
  clear hB
  obtain ⟨⟨z1, z2, z3⟩, z4, z5, z6⟩ := boxD D2
  go_wp2
  exact bodyPost_ret (v := .tuple #[.agg #[.bool false, .slice none 0 0, .int .i64 0], .int .i64 8]) (by simp [results, Tryd.results62, go_sem, z1, z2, z3]) rfl ⟨rfl, below_put c3 (by omega) _ _ _⟩
set_option maxHeartbeats 6400000 in
set_option maxRecDepth 100000 in
/-- headcountref02.Half, of one that may be. -/
theorem rHalf_dn (w : World) (a : Dn) (ha : a.May) (A1 : Option Addr) (n1 c1 : Nat) (h1 : Ints w 0 w.heap.size .u32 A1 n1 (canon 4294967296 a.m)) (r : Dn) (code : Int) (h : halfD a = (r, code)) :
    Calls Tryd.prog 62 #[.agg #[.bool a.neg, .slice A1 n1 c1, .int .i64 a.e]] w (Formed w r code) := by
  have hn1 := ints_may h1 ha
  have ea : a.e ≤ 1024 := ha.2.1
  have ma := Lib.hid (dn_may ha)
  have HF := Lib.hid (show formed a.neg a.m (a.e + 1) = (r, code) from h)
  have hwr : IntKind.i64.wrap ((a.e : Int) + 1) = ((a.e + 1 : Nat) : Int) := by rw [IntKind.wrap_i64]; omega
  have HW := Lib.hid hwr
  have hx : 2 ^ (a.e - a.e) * a.m = a.m := by rw [Nat.sub_self, Nat.pow_zero, Nat.one_mul]
  have HX := Lib.hid hx
  clear hwr h hx ha
  generalize hw : (w.alloc (.cells #[.bool a.neg, .slice A1 n1 c1, .int .i64 a.e] 24)).alloc (.cells #[.bool false, .slice none 0 0, .int .i64 0] 24) = w1 at *
  obtain ⟨D1, D2, b1, l1, l2⟩ := boxes2 w _ _ hw
  replace h1 := h1.below b1 (Nat.le_refl _)
  obtain ⟨⟨pD1, qD1, rD1⟩, uD1, vD1, xD1⟩ := boxD D1
  go_enter Tryd.func62, Tryd.ntmps62
  go_wp2_with fail
  try clear hw
  refine (rMay_ok w1 0 w.heap.size a.neg A1 n1 c1 _ a.e h1 (by omega) ma.out).mono ?_
  rintro e' w2 ⟨rfl, hB⟩
  clear pD1 qD1 rD1 uD1 vD1 xD1
  have lw2 : w1.heap.size ≤ w2.heap.size := hB.size
  replace h1 := h1.below hB (by omega)
  replace D1 := (hB.block _ (by omega)).trans D1
  replace D2 := (hB.block _ (by omega)).trans D2
  have c3 := b1.trans (hB.mono (by omega))
  clear hB
  go_wp2_with fail
  have kD : Keeps w2 w2.drew := fun _ _ => rfl
  have hB : Below w2.heap.size w2 w2.drew := (Below.refl _ _).drew
  refine region_E (Keeps w2) [12] (m := 14) (L := #[false, false, false, false, false, false, false, false, false, false, false, false, false, false]) (by kernel_rfl) (by rfl) (by rfl) ?_
  generalize w2.drew = w4 at *
  have lw4 : w2.heap.size ≤ w4.heap.size := hB.size
  have sv_D1 := D1
  have sv_D2 := D2
  replace h1 := h1.below hB (by omega)
  replace D1 := (hB.block _ (by omega)).trans D1
  replace D2 := (hB.block _ (by omega)).trans D2
  have hB0 := hB
  clear hB
  refine pureE (i := 1) (L := #[false, true, false, false, false, false, false, false, false, false, false, false, false, false]) (v := ?_) rfl (by rfl) (by kernel_rfl) (by kernel_rfl) (by kernel_rfl) (fun _ _ _ h => h) (by rfl) ?hy42 ?rest42
  case hy42 => intro w; go_simp; (try with_reducible rfl)
  try simp only [Act.put, List.setIfInBounds_toArray, List.set_cons_zero, List.set_cons_succ]
  refine pureE (i := 4) (L := #[false, true, false, false, true, false, false, false, false, false, false, false, false, false]) (v := ?_) rfl (by rfl) (by kernel_rfl) (by kernel_rfl) (by kernel_rfl) (fun _ _ _ h => h) (by rfl) ?hy43 ?rest43
  case hy43 => intro w; go_simp; (try with_reducible rfl)
  try simp only [Act.put, List.setIfInBounds_toArray, List.set_cons_zero, List.set_cons_succ]
  refine readE (i := 0) (L := #[true, true, false, false, true, false, false, false, false, false, false, false, false, false]) (v := .agg #[.bool a.neg, .slice A1 n1 c1, .int .i64 a.e]) rfl (by rfl) (by kernel_rfl) (by kernel_rfl) (by kernel_rfl) (fun _ _ _ h => h) (by assumption) (by rfl) ?hy0_1 ?rest0_1
  case hy0_1 =>
    intro w' h1
    obtain ⟨⟨k1, k2, k3⟩, _⟩ := boxD ((h1 _ (by omega)).trans sv_D1)
    go_simp
  try simp only [Act.put, List.setIfInBounds_toArray, List.set_cons_zero, List.set_cons_succ]
  refine readE (i := 2) (L := #[true, true, true, false, true, false, false, false, false, false, false, false, false, false]) (v := .int .i64 a.e) rfl (by rfl) (by kernel_rfl) (by kernel_rfl) (by kernel_rfl) (fun _ _ _ h => h) (by assumption) (by rfl) ?hy2_2 ?rest2_2
  case hy2_2 =>
    intro w' h1
    obtain ⟨⟨k1, k2, k3⟩, _⟩ := boxD ((h1 _ (by omega)).trans sv_D1)
    go_simp
  try simp only [Act.put, List.setIfInBounds_toArray, List.set_cons_zero, List.set_cons_succ]
  refine readE (i := 5) (L := #[true, true, true, false, true, true, false, false, false, false, false, false, false, false]) (v := .int .i64 a.e) rfl (by rfl) (by kernel_rfl) (by kernel_rfl) (by kernel_rfl) (fun _ _ _ h => h) (by assumption) (by rfl) ?hy5_3 ?rest5_3
  case hy5_3 =>
    intro w' h1
    obtain ⟨⟨k1, k2, k3⟩, _⟩ := boxD ((h1 _ (by omega)).trans sv_D1)
    go_simp
  try simp only [Act.put, List.setIfInBounds_toArray, List.set_cons_zero, List.set_cons_succ]
  have hwr := HW.out
  refine pureE (i := 6) (L := #[true, true, true, false, true, true, true, false, false, false, false, false, false, false]) (v := ?_) rfl (by rfl) (by kernel_rfl) (by kernel_rfl) (by kernel_rfl) (fun _ _ _ h => h) (by rfl) ?hy47 ?rest47
  case hy47 => intro w; go_simp; (try with_reducible rfl)
  try simp only [Act.put, List.setIfInBounds_toArray, List.set_cons_zero, List.set_cons_succ]
  refine stepK2 (i := 3) (j := 11) (Li := #[true, true, true, true, true, true, true, false, false, false, false, false, false, false]) (Lj := #[true, true, true, false, true, true, true, false, false, false, false, true, false, false]) rfl rfl (by rfl) (by rfl) (by kernel_rfl) (by rfl) (by rfl) (fun K hK => ?o3_4) (fun K hK => ?o11_4)
  case o3_4 =>
    
    go_simp
    go_at_call 84
    refine (In_any w4 a.neg a.m a.e A1 n1 c1 (h1.more (Nat.zero_le _) (by omega)) hn1 a.e (Nat.le_refl _) (by omega) a.m HX.out a.e rfl).mono ?_
    rintro e' w5 ⟨P1, i1, d1, rfl, lc1, ln1, hB, IN1⟩
    have lw5 : w4.heap.size ≤ w5.heap.size := hB.size
    replace h1 := h1.below hB (by omega)
    replace D1 := (hB.block _ (by omega)).trans D1
    replace D2 := (hB.block _ (by omega)).trans D2
    have c6 := hB0.trans (hB.mono (by omega))
    clear hB
    refine hK _ _ ⟨fun _ _ p hp => c6.block p hp, ?_⟩
    clear hK K
    try simp only [Act.put, List.setIfInBounds_toArray, List.set_cons_zero, List.set_cons_succ]
    refine stepK2 (i := 7) (j := 11) (Li := #[true, true, true, true, true, true, true, true, false, false, false, false, false, false]) (Lj := #[true, true, true, true, true, true, true, false, false, false, false, true, false, false]) rfl rfl (by rfl) (by rfl) (by kernel_rfl) (by rfl) (by rfl) (fun K hK => ?o7_5) (fun K hK => ?o11_5)
    case o7_5 =>
      
      go_simp
      go_at_call 83
      refine (rFormed_any w5 a.neg P1 i1 d1 _ (IN1.more (Nat.zero_le _) (by omega)) dig2 lc1 (by omega) (a.e + 1) (by omega) _ rfl a.m num2 r code HF.out).mono ?_
      rintro e' w7 ⟨P4, i4, d4, rfl, lc4, hB, IN4⟩
      have lw7 : w5.heap.size ≤ w7.heap.size := hB.size
      replace h1 := h1.below hB (by omega)
      replace IN1 := IN1.below hB (by omega)
      replace D1 := (hB.block _ (by omega)).trans D1
      replace D2 := (hB.block _ (by omega)).trans D2
      have c8 := c6.trans (hB.mono (by omega))
      clear hB
      refine hK _ _ ⟨fun _ _ p hp => c8.block p hp, ?_⟩
      clear hK K
      try simp only [Act.put, List.setIfInBounds_toArray, List.set_cons_zero, List.set_cons_succ]
      refine pureE (i := 8) (L := #[true, true, true, true, true, true, true, true, true, false, false, false, false, false]) (v := ?_) rfl (by rfl) (by kernel_rfl) (by kernel_rfl) (by kernel_rfl) (fun _ _ _ h => h) (by rfl) ?hy48 ?rest48
      case hy48 => intro w; go_simp; (try with_reducible rfl)
      try simp only [Act.put, List.setIfInBounds_toArray, List.set_cons_zero, List.set_cons_succ]
      refine pureE (i := 9) (L := #[true, true, true, true, true, true, true, true, true, true, false, false, false, false]) (v := ?_) rfl (by rfl) (by kernel_rfl) (by kernel_rfl) (by kernel_rfl) (fun _ _ _ h => h) (by rfl) ?hy49 ?rest49
      case hy49 => intro w; go_simp; (try with_reducible rfl)
      try simp only [Act.put, List.setIfInBounds_toArray, List.set_cons_zero, List.set_cons_succ]
      refine pureE (i := 10) (L := #[true, true, true, true, true, true, true, true, true, true, true, false, false, false]) (v := ?_) rfl (by rfl) (by kernel_rfl) (by kernel_rfl) (by kernel_rfl) (fun _ _ _ h => h) (by rfl) ?hy50 ?rest50
      case hy50 => intro w; go_simp; (try with_reducible rfl)
      try simp only [Act.put, List.setIfInBounds_toArray, List.set_cons_zero, List.set_cons_succ]
      refine stepK (i := 11) (L := #[true, true, true, true, true, true, true, true, true, true, true, true, false, false]) rfl (by rfl) (by kernel_rfl) (by rfl) (fun K hK => ?_)
      go_simp
      have hB := (Below.refl w7.heap.size w7).alloc (Nat.le_refl _) (.cells #[.bool false, .slice none 0 0, .int .i64 0] 24)
      have D4 := heap_alloc_last w7 (.cells #[.bool false, .slice none 0 0, .int .i64 0] 24)
      have mw9 : w7.heap.size < (w7.alloc (.cells #[.bool false, .slice none 0 0, .int .i64 0] 24)).heap.size := by simp
      generalize hw : w7.alloc (.cells #[.bool false, .slice none 0 0, .int .i64 0] 24) = w9 at *
      have lw9 : w7.heap.size ≤ w9.heap.size := hB.size
      replace h1 := h1.below hB (by omega)
      replace IN1 := IN1.below hB (by omega)
      replace IN4 := IN4.below hB (by omega)
      replace D1 := (hB.block _ (by omega)).trans D1
      replace D2 := (hB.block _ (by omega)).trans D2
      have c10 := c8.trans (hB.mono (by omega))
      clear hB
      try clear hw
      refine hK _ _ ⟨fun _ _ p hp => c10.block p hp, ?_⟩
      clear hK K
      try simp only [Act.put, List.setIfInBounds_toArray, List.set_cons_zero, List.set_cons_succ]
      refine stepK (i := 12) (L := #[true, true, true, true, true, true, true, true, true, true, true, true, true, false]) rfl (by rfl) (by kernel_rfl) (by rfl) (fun K hK => ?_)
      go_simp
      obtain ⟨⟨p1, p2, p3⟩, p4, p5, p6⟩ := boxD D4
      go_simp
      refine hK _ _ ⟨fun h => absurd h (by decide), ?_⟩
      clear hK K
      try simp only [Act.put, List.setIfInBounds_toArray, List.set_cons_zero, List.set_cons_succ]
      refine pureE (i := 13) (L := #[true, true, true, true, true, true, true, true, true, true, true, true, true, true]) (v := ?_) rfl (by rfl) (by kernel_rfl) (by kernel_rfl) (by kernel_rfl) (fun _ _ _ h => h) (by rfl) ?hy53 ?rest53
      case hy53 => intro w; go_simp; (try with_reducible rfl)
      try simp only [Act.put, List.setIfInBounds_toArray, List.set_cons_zero, List.set_cons_succ]
      refine doneE (by kernel_rfl) ?_ _
      clear p1 p2 p3 p4 p5 p6
      have q4 := box_put D4 (.bool r.neg) (.slice P4 i4 d4) (.int .i64 r.e)
      have d7 := below_put c10 (by omega : w2.heap.size ≤ w7.heap.size) (.bool r.neg) (.slice P4 i4 d4) (.int .i64 r.e)
      have J4 := ints_put IN4 (g := w7.heap.size) (by omega) (.bool r.neg) (.slice P4 i4 d4) (.int .i64 r.e)
      have s7 : w9.heap.size ≤ (((w9.setCell ⟨w7.heap.size, 0, none⟩ (.bool r.neg)).setCell ⟨w7.heap.size, 1, none⟩ (.slice P4 i4 d4)).setCell ⟨w7.heap.size, 2, none⟩ (.int .i64 r.e)).heap.size := by rw [size_put]; exact Nat.le_refl _
      generalize hw : ((w9.setCell ⟨w7.heap.size, 0, none⟩ (.bool r.neg)).setCell ⟨w7.heap.size, 1, none⟩ (.slice P4 i4 d4)).setCell ⟨w7.heap.size, 2, none⟩ (.int .i64 r.e) = w11 at *
      try clear hw
      have e8 := c3.trans (d7.mono (by omega))
      have X9 := (d7.block _ (by omega)).trans sv_D2
      obtain ⟨⟨p1, p2, p3⟩, p4, p5, p6⟩ := boxD q4
      obtain ⟨⟨z1, z2, z3⟩, z4, z5, z6⟩ := boxD X9
      go_wp2
      refine bodyPost_ret (v := .tuple #[.agg #[.bool r.neg, .slice P4 i4 d4, .int .i64 r.e], .int .i64 code]) (by simp [results, Tryd.results62, go_sem, z1, z2, z3]) rfl ⟨P4, i4, d4, rfl, lc4, ?_, ?_⟩
      · exact below_put e8 (by omega) _ _ _
      · exact (ints_put J4 (.inl (by omega)) _ _ _).more (by omega) (by rw [size_put]; omega)
    case o11_5 =>
      
      go_simp
      have hB := (Below.refl w5.heap.size w5).alloc (Nat.le_refl _) (.cells #[.bool false, .slice none 0 0, .int .i64 0] 24)
      have D4 := heap_alloc_last w5 (.cells #[.bool false, .slice none 0 0, .int .i64 0] 24)
      have mw12 : w5.heap.size < (w5.alloc (.cells #[.bool false, .slice none 0 0, .int .i64 0] 24)).heap.size := by simp
      generalize hw : w5.alloc (.cells #[.bool false, .slice none 0 0, .int .i64 0] 24) = w12 at *
      have lw12 : w5.heap.size ≤ w12.heap.size := hB.size
      replace h1 := h1.below hB (by omega)
      replace IN1 := IN1.below hB (by omega)
      replace D1 := (hB.block _ (by omega)).trans D1
      replace D2 := (hB.block _ (by omega)).trans D2
      have c13 := c6.trans (hB.mono (by omega))
      clear hB
      try clear hw
      refine hK _ _ ⟨fun _ _ p hp => c13.block p hp, ?_⟩
      clear hK K
      try simp only [Act.put, List.setIfInBounds_toArray, List.set_cons_zero, List.set_cons_succ]
      refine stepK (i := 7) (L := #[true, true, true, true, true, true, true, true, false, false, false, true, false, false]) rfl (by rfl) (by kernel_rfl) (by rfl) (fun K hK => ?_)
      go_simp
      go_at_call 83
      refine (rFormed_any w12 a.neg P1 i1 d1 _ (IN1.more (Nat.zero_le _) (by omega)) dig2 lc1 (by omega) (a.e + 1) (by omega) _ rfl a.m num2 r code HF.out).mono ?_
      rintro e' w14 ⟨P4, i4, d4, rfl, lc4, hB, IN4⟩
      have lw14 : w12.heap.size ≤ w14.heap.size := hB.size
      replace h1 := h1.below hB (by omega)
      replace IN1 := IN1.below hB (by omega)
      replace D1 := (hB.block _ (by omega)).trans D1
      replace D2 := (hB.block _ (by omega)).trans D2
      replace D4 := (hB.block _ (by omega)).trans D4
      have c15 := c13.trans (hB.mono (by omega))
      clear hB
      refine hK _ _ ⟨fun _ _ p hp => c15.block p hp, ?_⟩
      clear hK K
      try simp only [Act.put, List.setIfInBounds_toArray, List.set_cons_zero, List.set_cons_succ]
      refine pureE (i := 8) (L := #[true, true, true, true, true, true, true, true, true, false, false, true, false, false]) (v := ?_) rfl (by rfl) (by kernel_rfl) (by kernel_rfl) (by kernel_rfl) (fun _ _ _ h => h) (by rfl) ?hy55 ?rest55
      case hy55 => intro w; go_simp; (try with_reducible rfl)
      try simp only [Act.put, List.setIfInBounds_toArray, List.set_cons_zero, List.set_cons_succ]
      refine pureE (i := 9) (L := #[true, true, true, true, true, true, true, true, true, true, false, true, false, false]) (v := ?_) rfl (by rfl) (by kernel_rfl) (by kernel_rfl) (by kernel_rfl) (fun _ _ _ h => h) (by rfl) ?hy56 ?rest56
      case hy56 => intro w; go_simp; (try with_reducible rfl)
      try simp only [Act.put, List.setIfInBounds_toArray, List.set_cons_zero, List.set_cons_succ]
      refine pureE (i := 10) (L := #[true, true, true, true, true, true, true, true, true, true, true, true, false, false]) (v := ?_) rfl (by rfl) (by kernel_rfl) (by kernel_rfl) (by kernel_rfl) (fun _ _ _ h => h) (by rfl) ?hy57 ?rest57
      case hy57 => intro w; go_simp; (try with_reducible rfl)
      try simp only [Act.put, List.setIfInBounds_toArray, List.set_cons_zero, List.set_cons_succ]
      refine stepK (i := 12) (L := #[true, true, true, true, true, true, true, true, true, true, true, true, true, false]) rfl (by rfl) (by kernel_rfl) (by rfl) (fun K hK => ?_)
      go_simp
      obtain ⟨⟨p1, p2, p3⟩, p4, p5, p6⟩ := boxD D4
      go_simp
      refine hK _ _ ⟨fun h => absurd h (by decide), ?_⟩
      clear hK K
      try simp only [Act.put, List.setIfInBounds_toArray, List.set_cons_zero, List.set_cons_succ]
      refine pureE (i := 13) (L := #[true, true, true, true, true, true, true, true, true, true, true, true, true, true]) (v := ?_) rfl (by rfl) (by kernel_rfl) (by kernel_rfl) (by kernel_rfl) (fun _ _ _ h => h) (by rfl) ?hy59 ?rest59
      case hy59 => intro w; go_simp; (try with_reducible rfl)
      try simp only [Act.put, List.setIfInBounds_toArray, List.set_cons_zero, List.set_cons_succ]
      refine doneE (by kernel_rfl) ?_ _
      clear p1 p2 p3 p4 p5 p6
      have q4 := box_put D4 (.bool r.neg) (.slice P4 i4 d4) (.int .i64 r.e)
      have d7 := below_put c15 (by omega : w2.heap.size ≤ w5.heap.size) (.bool r.neg) (.slice P4 i4 d4) (.int .i64 r.e)
      have J4 := ints_put IN4 (g := w5.heap.size) (by omega) (.bool r.neg) (.slice P4 i4 d4) (.int .i64 r.e)
      have s7 : w14.heap.size ≤ (((w14.setCell ⟨w5.heap.size, 0, none⟩ (.bool r.neg)).setCell ⟨w5.heap.size, 1, none⟩ (.slice P4 i4 d4)).setCell ⟨w5.heap.size, 2, none⟩ (.int .i64 r.e)).heap.size := by rw [size_put]; exact Nat.le_refl _
      generalize hw : ((w14.setCell ⟨w5.heap.size, 0, none⟩ (.bool r.neg)).setCell ⟨w5.heap.size, 1, none⟩ (.slice P4 i4 d4)).setCell ⟨w5.heap.size, 2, none⟩ (.int .i64 r.e) = w16 at *
      try clear hw
      have e8 := c3.trans (d7.mono (by omega))
      have X9 := (d7.block _ (by omega)).trans sv_D2
      obtain ⟨⟨p1, p2, p3⟩, p4, p5, p6⟩ := boxD q4
      obtain ⟨⟨z1, z2, z3⟩, z4, z5, z6⟩ := boxD X9
      go_wp2
      refine bodyPost_ret (v := .tuple #[.agg #[.bool r.neg, .slice P4 i4 d4, .int .i64 r.e], .int .i64 code]) (by simp [results, Tryd.results62, go_sem, z1, z2, z3]) rfl ⟨P4, i4, d4, rfl, lc4, ?_, ?_⟩
      · exact below_put e8 (by omega) _ _ _
      · exact (ints_put J4 (.inl (by omega)) _ _ _).more (by omega) (by rw [size_put]; omega)
  case o11_4 =>
    
    go_simp
    have hB := (Below.refl w4.heap.size w4).alloc (Nat.le_refl _) (.cells #[.bool false, .slice none 0 0, .int .i64 0] 24)
    have D4 := heap_alloc_last w4 (.cells #[.bool false, .slice none 0 0, .int .i64 0] 24)
    have mw17 : w4.heap.size < (w4.alloc (.cells #[.bool false, .slice none 0 0, .int .i64 0] 24)).heap.size := by simp
    generalize hw : w4.alloc (.cells #[.bool false, .slice none 0 0, .int .i64 0] 24) = w17 at *
    have lw17 : w4.heap.size ≤ w17.heap.size := hB.size
    replace h1 := h1.below hB (by omega)
    replace D1 := (hB.block _ (by omega)).trans D1
    replace D2 := (hB.block _ (by omega)).trans D2
    have c18 := hB0.trans (hB.mono (by omega))
    clear hB
    try clear hw
    refine hK _ _ ⟨fun _ _ p hp => c18.block p hp, ?_⟩
    clear hK K
    try simp only [Act.put, List.setIfInBounds_toArray, List.set_cons_zero, List.set_cons_succ]
    refine stepK (i := 3) (L := #[true, true, true, true, true, true, true, false, false, false, false, true, false, false]) rfl (by rfl) (by kernel_rfl) (by rfl) (fun K hK => ?_)
    go_simp
    go_at_call 84
    refine (In_any w17 a.neg a.m a.e A1 n1 c1 (h1.more (Nat.zero_le _) (by omega)) hn1 a.e (Nat.le_refl _) (by omega) a.m HX.out a.e rfl).mono ?_
    rintro e' w19 ⟨P1, i1, d1, rfl, lc1, ln1, hB, IN1⟩
    have lw19 : w17.heap.size ≤ w19.heap.size := hB.size
    replace h1 := h1.below hB (by omega)
    replace D1 := (hB.block _ (by omega)).trans D1
    replace D2 := (hB.block _ (by omega)).trans D2
    replace D4 := (hB.block _ (by omega)).trans D4
    have c20 := c18.trans (hB.mono (by omega))
    clear hB
    refine hK _ _ ⟨fun _ _ p hp => c20.block p hp, ?_⟩
    clear hK K
    try simp only [Act.put, List.setIfInBounds_toArray, List.set_cons_zero, List.set_cons_succ]
    refine stepK (i := 7) (L := #[true, true, true, true, true, true, true, true, false, false, false, true, false, false]) rfl (by rfl) (by kernel_rfl) (by rfl) (fun K hK => ?_)
    go_simp
    go_at_call 83
    refine (rFormed_any w19 a.neg P1 i1 d1 _ (IN1.more (Nat.zero_le _) (by omega)) dig2 lc1 (by omega) (a.e + 1) (by omega) _ rfl a.m num2 r code HF.out).mono ?_
    rintro e' w21 ⟨P4, i4, d4, rfl, lc4, hB, IN4⟩
    have lw21 : w19.heap.size ≤ w21.heap.size := hB.size
    replace h1 := h1.below hB (by omega)
    replace IN1 := IN1.below hB (by omega)
    replace D1 := (hB.block _ (by omega)).trans D1
    replace D2 := (hB.block _ (by omega)).trans D2
    replace D4 := (hB.block _ (by omega)).trans D4
    have c22 := c20.trans (hB.mono (by omega))
    clear hB
    refine hK _ _ ⟨fun _ _ p hp => c22.block p hp, ?_⟩
    clear hK K
    try simp only [Act.put, List.setIfInBounds_toArray, List.set_cons_zero, List.set_cons_succ]
    refine pureE (i := 8) (L := #[true, true, true, true, true, true, true, true, true, false, false, true, false, false]) (v := ?_) rfl (by rfl) (by kernel_rfl) (by kernel_rfl) (by kernel_rfl) (fun _ _ _ h => h) (by rfl) ?hy62 ?rest62
    case hy62 => intro w; go_simp; (try with_reducible rfl)
    try simp only [Act.put, List.setIfInBounds_toArray, List.set_cons_zero, List.set_cons_succ]
    refine pureE (i := 9) (L := #[true, true, true, true, true, true, true, true, true, true, false, true, false, false]) (v := ?_) rfl (by rfl) (by kernel_rfl) (by kernel_rfl) (by kernel_rfl) (fun _ _ _ h => h) (by rfl) ?hy63 ?rest63
    case hy63 => intro w; go_simp; (try with_reducible rfl)
    try simp only [Act.put, List.setIfInBounds_toArray, List.set_cons_zero, List.set_cons_succ]
    refine pureE (i := 10) (L := #[true, true, true, true, true, true, true, true, true, true, true, true, false, false]) (v := ?_) rfl (by rfl) (by kernel_rfl) (by kernel_rfl) (by kernel_rfl) (fun _ _ _ h => h) (by rfl) ?hy64 ?rest64
    case hy64 => intro w; go_simp; (try with_reducible rfl)
    try simp only [Act.put, List.setIfInBounds_toArray, List.set_cons_zero, List.set_cons_succ]
    refine stepK (i := 12) (L := #[true, true, true, true, true, true, true, true, true, true, true, true, true, false]) rfl (by rfl) (by kernel_rfl) (by rfl) (fun K hK => ?_)
    go_simp
    obtain ⟨⟨p1, p2, p3⟩, p4, p5, p6⟩ := boxD D4
    go_simp
    refine hK _ _ ⟨fun h => absurd h (by decide), ?_⟩
    clear hK K
    try simp only [Act.put, List.setIfInBounds_toArray, List.set_cons_zero, List.set_cons_succ]
    refine pureE (i := 13) (L := #[true, true, true, true, true, true, true, true, true, true, true, true, true, true]) (v := ?_) rfl (by rfl) (by kernel_rfl) (by kernel_rfl) (by kernel_rfl) (fun _ _ _ h => h) (by rfl) ?hy66 ?rest66
    case hy66 => intro w; go_simp; (try with_reducible rfl)
    try simp only [Act.put, List.setIfInBounds_toArray, List.set_cons_zero, List.set_cons_succ]
    refine doneE (by kernel_rfl) ?_ _
    clear p1 p2 p3 p4 p5 p6
    have q4 := box_put D4 (.bool r.neg) (.slice P4 i4 d4) (.int .i64 r.e)
    have d7 := below_put c22 (by omega : w2.heap.size ≤ w4.heap.size) (.bool r.neg) (.slice P4 i4 d4) (.int .i64 r.e)
    have J4 := ints_put IN4 (g := w4.heap.size) (by omega) (.bool r.neg) (.slice P4 i4 d4) (.int .i64 r.e)
    have s7 : w21.heap.size ≤ (((w21.setCell ⟨w4.heap.size, 0, none⟩ (.bool r.neg)).setCell ⟨w4.heap.size, 1, none⟩ (.slice P4 i4 d4)).setCell ⟨w4.heap.size, 2, none⟩ (.int .i64 r.e)).heap.size := by rw [size_put]; exact Nat.le_refl _
    generalize hw : ((w21.setCell ⟨w4.heap.size, 0, none⟩ (.bool r.neg)).setCell ⟨w4.heap.size, 1, none⟩ (.slice P4 i4 d4)).setCell ⟨w4.heap.size, 2, none⟩ (.int .i64 r.e) = w23 at *
    try clear hw
    have e8 := c3.trans (d7.mono (by omega))
    have X9 := (d7.block _ (by omega)).trans sv_D2
    obtain ⟨⟨p1, p2, p3⟩, p4, p5, p6⟩ := boxD q4
    obtain ⟨⟨z1, z2, z3⟩, z4, z5, z6⟩ := boxD X9
    go_wp2
    refine bodyPost_ret (v := .tuple #[.agg #[.bool r.neg, .slice P4 i4 d4, .int .i64 r.e], .int .i64 code]) (by simp [results, Tryd.results62, go_sem, z1, z2, z3]) rfl ⟨P4, i4, d4, rfl, lc4, ?_, ?_⟩
    · exact below_put e8 (by omega) _ _ _
    · exact (ints_put J4 (.inl (by omega)) _ _ _).more (by omega) (by rw [size_put]; omega)
theorem rAdd_all (w : World) (s1 s2 : Bool) (A1 A2 : Option Addr) (n1 c1 n2 c2 : Nat) (xs1 xs2 : List Int) (e1 e2 : Int) (h1 : Ints w 0 w.heap.size .u32 A1 n1 xs1) (h2 : Ints w 0 w.heap.size .u32 A2 n2 xs2) (r : Dn) (code : Int) (h : addX s1 xs1 e1 s2 xs2 e2 = (r, code)) :
    Calls Tryd.prog 64 #[.agg #[.bool s1, .slice A1 n1 c1, .int .i64 e1], .agg #[.bool s2, .slice A2 n2 c2, .int .i64 e2]] w (Formed w r code) := by
  unfold addX at h
  split at h
  · rename_i hm
    obtain ⟨y1, k1, k2⟩ := dn_ok (dig_ints h1) hm.1
    obtain ⟨y2, k3, k4⟩ := dn_ok (dig_ints h2) hm.2
    have := rAdd_dn w (dn s1 xs1 e1) (dn s2 xs2 e2) y1 y2 A1 A2 n1 c1 n2 c2 (by rw [k1]; exact h1) (by rw [k3]; exact h2) r code h
    rw [k2, k4] at this
    exact this
  · rename_i hm
    injection h with h3 h4
    subst h3 h4
    exact (rAdd_bad w s1 s2 A1 A2 n1 c1 n2 c2 xs1 xs2 e1 e2 h1 h2 (Classical.not_and_iff_not_or_not.1 hm)).mono fun _ _ k => bad_formed k
theorem rHalf_all (w : World) (s1 : Bool) (A1 : Option Addr) (n1 c1 : Nat) (xs1 : List Int) (e1 : Int) (h1 : Ints w 0 w.heap.size .u32 A1 n1 xs1) (r : Dn) (code : Int) (h : halfX s1 xs1 e1 = (r, code)) :
    Calls Tryd.prog 62 #[.agg #[.bool s1, .slice A1 n1 c1, .int .i64 e1]] w (Formed w r code) := by
  unfold halfX at h
  split at h
  · rename_i hm
    obtain ⟨y1, k1, k2⟩ := dn_ok (dig_ints h1) hm
    have := rHalf_dn w (dn s1 xs1 e1) y1 A1 n1 c1 (by rw [k1]; exact h1) r code h
    rw [k2] at this
    exact this
  · rename_i hm
    injection h with h3 h4
    subst h3 h4
    exact (rHalf_bad w s1 A1 n1 c1 xs1 e1 h1 hm).mono fun _ _ k => bad_formed k
end Dy
end Go.Proofs.YtbbnbgllgomolaaDoor
namespace Go.Proofs.YtbbnbgllgomolaaDoor
open Go.RowKit
namespace Dy
open Dp
/-- Cells that may be written. -/
def WrD (w : World) (b off n : Nat) : Prop := ∀ j, j < n → (∃ u, w.cell? ⟨b, off + j, none⟩ = some u) ∧ w.frozen? ⟨b, off + j, none⟩ = false
theorem WrD.set_ {w : World} {b off n : Nat} (h : WrD w b off n) (p : Addr) (v : Value) : WrD (w.setCell p v) b off n := fun j hj => by
  obtain ⟨⟨u, h1⟩, h2⟩ := h j hj
  refine ⟨?_, by rw [World.frozen?_setCell]; exact h2⟩
  by_cases e : p = ⟨b, off + j, none⟩
  · subst e
    exact ⟨v, World.cell?_setCell_same' _ _ _ (by rw [h1]; rfl)⟩
  · exact ⟨u, (World.cell?_setCell_other _ _ _ _ e).trans h1⟩
/-- What lies from hi on stays, too. -/
def From (hi : Nat) (w w' : World) : Prop := ∀ k, hi ≤ k → k < w.heap.size → w'.heap[k]? = w.heap[k]?
theorem From.setCell {hi : Nat} {w0 w : World} (h : From hi w0 w) {p : Addr} (hp : p.block < hi) (v : Value) : From hi w0 (w.setCell p v) := fun k h1 h2 => by
  rw [← h k h1 h2]
  exact Below.heap_setCell _ _ _ _ (by omega)
theorem ints_spoilt {w w' : World} {lo hi l h n : Nat} {k : IntKind} {A : Option Addr} {xs : List Int} (hI : Ints w l h k A n xs) (hb : Below lo w w') (hf : From hi w w') (hs : h ≤ w.heap.size) (hd : h ≤ lo ∨ hi ≤ l) : Ints w' l h k A n xs :=
  ⟨hI.len, hI.wf, hI.big, fun h0 => by
    obtain ⟨b, off, e, h1, h2, hc⟩ := hI.row h0
    have h3 : w'.heap[b]? = w.heap[b]? := by
      rcases hd with hd | hd
      · exact hb.block b (by omega)
      · exact hf b (by omega) (by omega)
    exact ⟨b, off, e, h1, h2, fun j hj => ⟨by rw [World.cell?_of_block h3]; exact (hc j hj).1, by rw [World.frozen?_of_block h3]; exact (hc j hj).2⟩⟩⟩
theorem box_spoilt {w w' : World} {lo hi g : Nat} {o : Obj} (h : w.heap[g]? = some o) (hb : Below lo w w') (hf : From hi w w') (hd : g < lo ∨ hi ≤ g) : w'.heap[g]? = some o := by
  rcases hd with hd | hd
  · exact (hb.block g hd).trans h
  · exact (hf g hd (Array.getElem?_eq_some_iff.1 h).1).trans h
end Dy
end Go.Proofs.YtbbnbgllgomolaaDoor
