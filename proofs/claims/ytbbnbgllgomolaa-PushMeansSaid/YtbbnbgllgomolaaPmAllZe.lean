/- RegionE: an operation whose guard says no. No program in sight. -/
/- headcountref01.Times, headcountref15.least: walks. -/
/- headcountref15.Times: a walk (printed by a program of mine). -/
/- headcountref15.Lies: a walk (printed by a program of mine). -/
/- headcountref15.Between, headcountref15.Mean: walks (printed by a program of mine). -/
/- The law PushMeans: a walk (printed by a program of mine). -/
import Derived.Test.YtbbnbgllgomolaaBe03
import Derived.Test.YtbbnbgllgomolaaPmRootZe
namespace Go.Proofs.Ytbbnbgllgomolaa
open Go.RowKit
section
variable {P : Program} {ops : Array Oper} {os : List Oper} {Q : Exit → Act → World → Prop} {md : Region.Mode} {S : World → Prop} {E : List Nat}
/-- An operation whose guard says no. -/
theorem skipE {i n : Nat} {oi : Oper} {listed L : Array Bool} {a : Act} {w : World} (hi : os[i]? = some oi) (hL : listed.setIfInBounds i true = L)
  (hs : Region.noSelect os.toArray = true) (hf : Region.free md os.toArray listed i = true) (hr : (Region.ready md os.toArray listed).contains i = true)
  (hQ : ∀ c a w, Q (.panic c) (a.put oi.dst undef) w → Q (.panic c) a w) (hw : Region.wanted oi (yielded os.toArray a.tmps) = false)
  (h : wpAnyE P md os.toArray Q S E n L (a.put oi.dst undef) w) : wpAnyE P md os.toArray Q S E (n + 1) listed a w := by
 have hi' : os.toArray[i]? = some oi := by simpa using hi
 exact firstT hi' (Region.noSelect_spec hs) hQ n listed a w (Region.free_spec hi' hf) (by simpa using hr) (Or.inr ⟨hw, rfl⟩) (hL ▸ h)
end
end Go.Proofs.Ytbbnbgllgomolaa
namespace Go.Proofs.Ytbbnbgllgomolaa
open Go.RowKit
namespace Ma
open Dp Dy
theorem take_bit {ys : List Int} {i : Nat} (h : i < ys.length) : num 2 (ys.take (i + 1)) = num 2 (ys.take i) + 2 ^ i * (ys[i]?.getD 0).toNat := by
 rw [List.take_add_one, num_append, List.length_take, Nat.min_eq_left (by omega), List.getElem?_eq_getElem h]
 simp [num]
theorem num_take_lt {ys : List Int} (hd : Dig 2 ys) (i : Nat) : num 2 (ys.take i) < 2 ^ i := by
 have h := num_lt 2 (by decide) (ys.take i) (fun x hx => hd x (List.mem_of_mem_take hx))
 have h2 : (2 : Nat) ^ (ys.take i).length ≤ 2 ^ i := Nat.pow_le_pow_right (by decide) (by rw [List.length_take]; exact Nat.min_le_left _ _)
 omega
theorem canon_bits {x n : Nat} (h : (canon 2 x).length = n) : x < 2 ^ n := by
 obtain ⟨h1, _, h2⟩ := canon_spec 2 x (by decide)
 have h3 := num_lt 2 (by decide) _ h1
 rw [h2, h] at h3
 exact h3
theorem len_prod {x a n m k : Nat} (hx : x < 2 ^ n) (ha : a < 2 ^ m) (h : (canon 2 (x * a)).length = k) : k ≤ n + m := by
 rw [← h]
 refine canon_len (by decide) ?_
 rw [Nat.pow_add]
 exact Nat.mul_lt_mul'' hx ha
theorem dig_bit {ys : List Int} (hd : Dig 2 ys) (i : Nat) : ys[i]?.getD 0 = 0 ∨ ys[i]?.getD 0 = 1 := by
 by_cases h : i < ys.length
 · rw [List.getElem?_eq_getElem h]
   have := hd _ (List.getElem_mem h)
   simp only [Option.getD_some]
   omega
 · rw [List.getElem?_eq_none (by omega)]
   exact .inl rfl
set_option maxHeartbeats 6400000 in
set_option maxRecDepth 100000 in
/-- headcountref01.Times. -/
theorem Times1_any (w : World) (A : Option Addr) (n c : Nat) (x : Nat) (hX : Ints w 0 w.heap.size .u8 A n (canon 2 x)) (B : Option Addr) (m d : Nat) (y : Nat) (hY : Ints w 0 w.heap.size .u8 B m (canon 2 y)) (hn : n ≤ 5000) (hm : m ≤ 64) (v : Nat) (hv : x * y = v) :
  Calls Try.prog 137 #[.slice A n c, .slice B m d] w fun e w' => ∃ A' n' c', e = .returned (.slice A' n' c') ∧ n' ≤ c' ∧ Below w.heap.size w w' ∧ Ints w' w.heap.size w'.heap.size .u8 A' n' (canon 2 v) := by
 have NY := Lib.hid (canon_spec 2 y (by decide))
 have LX := Lib.hid (canon_bits hX.len)
 have LY := Lib.hid hY.len
 have HV := Lib.hid hv
 clear hv
 go_enter Try.func137, Try.ntmps137
 go_wp2
 go_loopw [5, 6] (fun ov iv wr => ∃ (i : Nat) (O : Option Addr) (p q s : Nat), iv = .int .i64 i ∧ ov = .slice O p q ∧ p ≤ q ∧ i ≤ m ∧ Below w.heap.size w wr ∧ Ints wr w.heap.size wr.heap.size .u8 O p (canon 2 s) ∧ Hid (s = x * num 2 ((canon 2 y).take i))) (fun _ iv _ => m - (intOf iv).toNat)
 case atStart => exact ⟨0, none, 0, 0, 0, rfl, rfl, Nat.le_refl _, Nat.zero_le _, Below.refl _ _, Ints.nil_ .., Lib.hid (by rw [List.take_zero]; exact (Nat.mul_zero x).symm)⟩
 case round =>
  obtain ⟨i, O, p, q, s, rfl, rfl, hpq, hi1, hb, hO, hs⟩ := hrel
  by_cases hi : i < m
  · have hYr := hY.below hb (Nat.le_refl _)
    obtain ⟨b, off, rfl, hcell⟩ := get hYr (by omega)
    have g1 := hcell i hi
    have hbit := Lib.hid (dig_bit NY.out.1 i)
    have htk := Lib.hid (take_bit (ys := canon 2 y) (i := i) (by rw [LY.out]; exact hi))
    obtain ⟨t, ht⟩ : ∃ t, (canon 2 y)[i]?.getD 0 = t := ⟨_, rfl⟩
    rw [ht] at g1 hbit htk
    clear hcell ht hYr
    have hwr : IntKind.i64.wrap ((i : Int) + 1) = ((i + 1 : Nat) : Int) := by rw [IntKind.wrap_i64]; omega
    have hp : p ≤ n + i := len_prod LX.out (num_take_lt NY.out.1 i) (by rw [← hs.out]; exact hO.len)
    rcases hbit.out with h0 | h0
    · subst h0
      have hs2 : Hid (s = x * num 2 ((canon 2 y).take (i + 1))) := Lib.hid (by rw [htk.out, hs.out]; rfl)
      clear hbit htk
      go_wp2
      go_roundw
      case rel => exact ⟨i + 1, O, p, q, s, by first | rfl | (congr 1; omega) | go_num, rfl, hpq, by omega, hb, hO, hs2⟩
      case measure => first | (simp [intOf]; done) | (simp [intOf]; omega)
    · subst h0
      have hs2 : Hid (s + 2 ^ i * x = x * num 2 ((canon 2 y).take (i + 1))) := Lib.hid (by
       rw [htk.out, hs.out, Nat.mul_add]
       have e : ((1 : Int)).toNat = 1 := rfl
       rw [e, Nat.mul_one, Nat.mul_comm x (2 ^ i)])
      clear hbit htk
      go_wp2_with fail
      refine (Times2_any wr 0 w.heap.size A n c x (hX.below hb (Nat.le_refl _)) hb.size (by omega) i i rfl (by omega)).mono ?_
      rintro e w3 ⟨A2, n2, c2, rfl, hc2, hn2, hB2, I2⟩
      have hO2 := hO.below hB2 (Nat.le_refl _)
      have hb2 := hb.trans (hB2.mono hb.size)
      have S2 := Lib.hid (canon_spec 2 s (by decide))
      have S3 := Lib.hid (canon_spec 2 (2 ^ i * x) (by decide))
      have s3 := hB2.size
      clear hB2 g1
      go_wp2_with fail
      refine (Plus_any w3 w.heap.size wr.heap.size wr.heap.size w3.heap.size O p q _ hO2 A2 n2 c2 _ I2 S2.out.1 S3.out.1 s3 (Nat.le_refl _) (by omega) (by omega) (s + 2 ^ i * x) (by rw [S2.out.2.2, S3.out.2.2])).mono ?_
      rintro e w4 ⟨A4, n4, c4, rfl, hc4, hB4, I4⟩
      have hb3 := hb2.trans (hB4.mono hb2.size)
      have I5 := I4.more (lo' := w.heap.size) hb2.size (Nat.le_refl _)
      clear hB4 I4 hb hO hb2 hO2 I2
      go_wp2
      go_roundw
      case rel => exact ⟨i + 1, A4, n4, c4, _, by first | rfl | (congr 1; omega) | go_num, rfl, hc4, by omega, hb3, I5, hs2⟩
      case measure => first | (simp [intOf]; done) | (simp [intOf]; omega)
  · obtain rfl : i = m := by omega
    have he : s = v := by
     rw [hs.out, List.take_of_length_le (by rw [LY.out]; exact Nat.le_refl _), NY.out.2.2]
     exact HV.out
    rw [he] at hO
    clear he
    go_wp2
    go_ret
    exact ⟨O, p, q, rfl, hpq, hb, hO⟩
set_option maxHeartbeats 3200000 in
set_option maxRecDepth 100000 in
/-- headcountref15.least. -/
theorem least15_any (w : World) (s : Bool) (A : Option Addr) (n c : Nat) (v : Nat) (hX : Ints w 0 w.heap.size .u8 A n (canon 2 v)) (hc : n ≤ c) (r : Bool) (hr : decide (0 ≤ sg s v) = r) :
  Calls Try.prog 123 #[.agg #[.bool s, .slice A n c]] w fun e w' => e = .returned (.bool r) ∧ Below w.heap.size w w' := by
 have fin := (Below.refl w.heap.size w).alloc (Nat.le_refl _) (.cells #[.bool s, .slice A n c] 110)
 have B1 := heap_alloc_last w (.cells #[.bool s, .slice A n c] 110)
 have hX1 := hX.below fin (Nat.le_refl _)
 generalize hw : w.alloc (.cells #[.bool s, .slice A n c] 110) = w1 at *
 obtain ⟨⟨p1, p2⟩, p3, p4⟩ := boxS B1
 have HR := Lib.hid hr
 clear hr
 cases s
 · have hr' : r = true := by
     rw [← HR.out]
     exact decide_eq_true (by unfold sg; simp)
   subst hr'
   clear HR
   go_enter Try.func123, Try.ntmps123
   go_wp2
   go_ret
   exact ⟨rfl, fin⟩
 · go_enter Try.func123, Try.ntmps123
   have N1 := canon_spec 2 v (by decide)
   have N2 := Lib.hid N1
   clear N1
   go_wp2_with fail
   refine (Cut_any w1 0 w.heap.size A n c _ hX1 N2.out.1 hc).mono ?_
   rintro e w2 ⟨⟨m, rfl, hm, hI⟩, rfl⟩
   rw [N2.out.2.2] at hI
   have hl := hI.len
   clear hI
   try clear hw
   by_cases h0 : m = 0
   · have hv0 : v = 0 := canon_nil (B := 2) (by decide) (List.length_eq_zero_iff.1 (by omega))
     have hr' : r = true := by
      rw [← HR.out, hv0]
      rfl
     subst hr'
     subst h0
     clear HR hl
     go_wp2
     go_ret
     exact ⟨rfl, fin⟩
   · have hv0 : v ≠ 0 := fun e => h0 (by rw [← hl, e]; rfl)
     have hr' : r = false := by
      rw [← HR.out]
      exact decide_eq_false (by unfold sg; simp; omega)
     subst hr'
     have hmb : ((m : Int) == 0) = false := by
      have : (m : Int) ≠ 0 := by omega
      simpa using this
     clear HR hl h0
     go_wp2
     go_ret
     exact ⟨rfl, fin⟩
end Ma
end Go.Proofs.Ytbbnbgllgomolaa
namespace Go.Proofs.Ytbbnbgllgomolaa
open Go.RowKit
namespace Ma
open Dp Dy
theorem bits_prod {m n j q : Nat} (hm : m < 4294967296 ^ n) (hn : n ≤ 40) (hj : j ≤ 1100) (hq : q < 2 ^ 31) {l : Nat} (h : (canon 2 (2 ^ j * m * q)).length = l) : l ≤ 4000 := by
 have h1 : m < 2 ^ (32 * n) := by
  have e : (4294967296 : Nat) = 2 ^ 32 := by decide
  rw [e, ← Nat.pow_mul] at hm
  exact hm
 have h2 : 2 ^ j * m < 2 ^ (j + 32 * n) := by
  rw [Nat.pow_add]
  exact Nat.mul_lt_mul_of_pos_left h1 (Nat.pow_pos (by decide))
 have := len_prod h2 hq h
 omega
theorem canon_big {m n : Nat} (h : (canon 4294967296 m).length = n) : m < 4294967296 ^ n := by
 obtain ⟨h1, _, h2⟩ := canon_spec 4294967296 m (by decide)
 have h3 := num_lt 4294967296 (by decide) _ h1
 rw [h2, h] at h3
 exact h3
set_option maxHeartbeats 25600000 in
set_option maxRecDepth 100000 in
/-- headcountref15.Times. -/
theorem Times15_any (w : World) (s : Bool) (m ex : Nat) (A : Option Addr) (n c : Nat) (h : Ints w 0 w.heap.size .u32 A n (canon 4294967296 m)) (hn : n ≤ 40) (k : Nat) (hk : ex ≤ k) (hk2 : k ≤ 1100) (z : Int) (hz0 : -2147483647 ≤ z) (hz1 : z ≤ 2147483647) (neg : Bool) (hneg : (s != decide (z < 0)) = neg) (v : Nat) (hv : 2 ^ (k - ex) * m * z.natAbs = v) :
  Calls Try.prog 124 #[.agg #[.bool s, .slice A n c, .int .i64 ex], .int .i64 k, .int .i64 z] w fun e w' => ∃ A' n' c', e = .returned (.agg #[.bool neg, .slice A' n' c']) ∧ n' ≤ c' ∧ n' ≤ 4000 ∧ Below w.heap.size w w' ∧ Ints w' w.heap.size w'.heap.size .u8 A' n' (canon 2 v) := by
 have HM := Lib.hid (canon_big h.len)
 have HN := Lib.hid hneg
 have HV := Lib.hid hv
 clear hneg hv
 generalize hw2 : (w.alloc (.cells #[.bool s, .slice A n c, .int .i64 ex] 25)).alloc (.cells #[.bool false, .slice none 0 0] 110) = w2
 obtain ⟨h3, h6, hB2, lo2, hi2⟩ := boxes2 w _ _ hw2
 replace hB2 : Below w.heap.size w w2 := hB2
 replace h3 : w2.heap[w.heap.size]? = some (.cells #[.bool s, .slice A n c, .int .i64 ex] 25 (0, 0)) := h3
 replace h6 : w2.heap[w.heap.size + 1]? = some (.cells #[.bool false, .slice none 0 0] 110 (0, 0)) := h6
 have hI2 := ints_on h hB2
 obtain ⟨⟨k1, k2, k3⟩, k4, k5, k6⟩ := boxD h3
 go_enter Try.func124, Try.ntmps124
 go_wp2_with fail
 try clear hw2
 refine (In_any w2 s m ex A n c hI2 hn k hk (by omega) (2 ^ (k - ex) * m) rfl k rfl).mono ?_
 rintro e w3 ⟨A1, n1, c1, rfl, hc1, hn1, hB3, I3⟩
 clear k1 k2 k3 k4 k5 k6 h3 hI2
 have hs3 := hB3.size
 have h6' := (hB3.block _ (by omega)).trans h6
 obtain ⟨w4, hw4⟩ : ∃ U, w3.alloc (.cells #[.bool s, .slice A1 n1 c1] 110) = U := ⟨_, rfl⟩
 have h7 : w4.heap[w3.heap.size]? = some (.cells #[.bool s, .slice A1 n1 c1] 110 (0, 0)) := by rw [← hw4]; exact heap_alloc_last _ _
 have hB4 : Below w3.heap.size w3 w4 := by rw [← hw4]; exact (Below.refl _ _).alloc (Nat.le_refl _) _
 have hs4 : w3.heap.size < w4.heap.size := by rw [← hw4]; simp
 have h66 := (hB4.block _ (by omega)).trans h6'
 have hb4 : Below w.heap.size w w4 := (hB2.trans (hB3.mono (by omega))).trans (hB4.mono (by omega))
 have I4 := I3.below hB4 (Nat.le_refl _)
 clear h6 h6' hB2 hB3 hB4 I3 h
 by_cases hz : z < 0
 · obtain ⟨q, rfl⟩ : ∃ q : Nat, z = -(q : Int) := ⟨z.natAbs, by omega⟩
   have hqn : -(q : Int) < 0 := hz
   have hq0 : 0 < q := by omega
   have hwn : IntKind.i64.wrap (-(-(q : Int))) = (q : Int) := by rw [IntKind.wrap_i64]; omega
   have hqw : IntKind.u64.wrap (q : Int) = (q : Int) := by rw [IntKind.wrap_u64]; omega
   have hwq : IntKind.i64.wrap (q : Int) = (q : Int) := by rw [IntKind.wrap_i64]; omega
   have hq31 : q < 2 ^ 31 := by omega
   have hna : (-(q : Int)).natAbs = q := by omega
   rw [hna] at HV
   clear hna hz
   cases s
   · skip
     have hneg : neg = true := by rw [← HN.out]; rw [decide_eq_true hqn]; rfl
     subst hneg
     clear HN
     obtain ⟨⟨p1, p2⟩, p3, p4⟩ := boxS h7
     have HQ := Lib.hid hqw
     go_wp2_with fail
     try clear hw4
     clear p1 p2 p3 p4
     refine region_E (Keeps w4) [13] (m := 14) (L := #[zF,zF,zF,zF,zF,zF,zF,zF,zF,zF,zF,zF,zF,zF]) (by kernel_rfl) (by rfl) (by rfl) ?_
     have kp_ : Keeps w4 w4.drew := fun _ _ => rfl
     have j5 : Below w4.heap.size w4 w4.drew := (Below.refl _ _).drew
     generalize w4.drew = w5 at *
     refine zE 0 #[zT,zF,zF,zF,zF,zF,zF,zF,zF,zF,zF,zF,zF,zF] ?_ rfl ?hy1 ?rest1
     case hy1 => intro w; go_simp; (try with_reducible rfl)
     try simp only [Act.put, zp]
     refine readE (i := 1) (L := #[zT,zT,zF,zF,zF,zF,zF,zF,zF,zF,zF,zF,zF,zF]) (v := .bool false) rfl (by rfl) (by kernel_rfl) (by kernel_rfl) (by kernel_rfl) (fun _ _ _ h => h) (by assumption) (by rfl) ?ya1 ?za1
     case ya1 =>
      intro w' h1
      obtain ⟨⟨p1, p2⟩, p3, p4⟩ := boxS ((h1 _ hs4).trans h7)
      go_simp
     try simp only [Act.put, zp]
     refine zE 2 #[zT,zT,zT,zF,zF,zF,zF,zF,zF,zF,zF,zF,zF,zF] ?_ rfl ?hy3 ?rest3
     case hy3 => intro w; go_simp; (try with_reducible rfl)
     try simp only [Act.put, zp]
     refine zE 3 #[zT,zT,zT,zT,zF,zF,zF,zF,zF,zF,zF,zF,zF,zF] ?_ rfl ?hy4 ?rest4
     case hy4 => intro w; go_simp; (try with_reducible rfl)
     try simp only [Act.put, zp]
     refine zE 4 #[zT,zT,zT,zT,zT,zF,zF,zF,zF,zF,zF,zF,zF,zF] ?_ rfl ?hy5 ?rest5
     case hy5 => intro w; go_simp; (try with_reducible rfl)
     try simp only [Act.put, zp]
     refine zE 5 #[zT,zT,zT,zT,zT,zT,zF,zF,zF,zF,zF,zF,zF,zF] ?_ rfl ?hy6 ?rest6
     case hy6 => intro w; go_simp; (try with_reducible rfl)
     try simp only [Act.put, zp]
     refine readE (i := 6) (L := #[zT,zT,zT,zT,zT,zT,zT,zF,zF,zF,zF,zF,zF,zF]) (v := .slice A1 n1 c1) rfl (by rfl) (by kernel_rfl) (by kernel_rfl) (by kernel_rfl) (fun _ _ _ h => h) (by assumption) (by rfl) ?yb1 ?zb1
     case yb1 =>
      intro w' h1
      obtain ⟨⟨p1, p2⟩, p3, p4⟩ := boxS ((h1 _ hs4).trans h7)
      go_simp
     try simp only [Act.put, zp]
     refine zE 7 #[zT,zT,zT,zT,zT,zT,zT,zT,zF,zF,zF,zF,zF,zF] ?_ rfl ?hy8 ?rest8
     case hy8 => intro w; go_simp; (try with_reducible rfl)
     try simp only [Act.put, zp]
     have hqw := HQ.out
     refine zE 8 #[zT,zT,zT,zT,zT,zT,zT,zT,zT,zF,zF,zF,zF,zF] ?_ rfl ?hy9 ?rest9
     case hy9 => intro w; go_simp; (try with_reducible rfl)
     try simp only [Act.put, zp]
     clear hqw
     refine stepK (i := 9) (L := #[zT,zT,zT,zT,zT,zT,zT,zT,zT,zT,zF,zF,zF,zF]) rfl (by rfl) (by kernel_rfl) (by rfl) (fun K hK => ?_)
     go_simp
     go_at_call 138
     refine (rOf1_any w5 q (by omega)).mono ?_
     rintro e w6 ⟨A6, n6, c6, rfl, hc6, j6, I6⟩
     have n6' : n6 ≤ 1 := by
      rw [← I6.len]
      exact canon_len (by decide) (by omega)
     refine hK _ _ ⟨fun _ _ p hp => Below.block (later j5 j6) p hp, ?_⟩
     clear hK K
     try simp only [Act.put, zp]
     refine stepK (i := 10) (L := #[zT,zT,zT,zT,zT,zT,zT,zT,zT,zT,zT,zF,zF,zF]) rfl (by rfl) (by kernel_rfl) (by rfl) (fun K hK => ?_)
     go_simp
     go_at_call 104
     refine (Digits_any w6 w5.heap.size w6.heap.size A6 n6 c6 _ I6 (canon_spec 4294967296 q (by decide)).1 (Nat.le_refl _) (by omega) q (canon_spec 4294967296 q (by decide)).2.2).mono ?_
     rintro e w7 ⟨A7, n7, c7, rfl, hc7, hn7, j7, I7⟩
     refine hK _ _ ⟨fun _ _ p hp => Below.block (later j5 (later j6 j7)) p hp, ?_⟩
     clear hK K
     try simp only [Act.put, zp]
     refine stepK (i := 11) (L := #[zT,zT,zT,zT,zT,zT,zT,zT,zT,zT,zT,zT,zF,zF]) rfl (by rfl) (by kernel_rfl) (by rfl) (fun K hK => ?_)
     go_simp
     go_at_call 137
     refine (Times1_any w7 A1 n1 c1 _ ((I4.below (later j5 (later j6 j7)) (Nat.le_of_lt hs4)).more (Nat.zero_le _) (by have := (later j5 (later j6 j7)).size; omega)) A7 n7 c7 q (I7.more (Nat.zero_le _) (Nat.le_refl _)) (by omega) (by omega) v HV.out).mono ?_
     rintro e w8 ⟨A8, n8, c8, rfl, hc8, j8, I8⟩
     have j48 := later j5 (later j6 (later j7 j8))
     have n8' : n8 ≤ 4000 := bits_prod HM.out hn (j := k - ex) (by omega) hq31 (by rw [HV.out]; exact I8.len)
     have t1 := (later j5 (later j6 j7)).size
     refine hK _ _ ⟨fun _ _ p hp => Below.block j48 p hp, ?_⟩
     clear hK K
     try simp only [Act.put, zp]
     refine zE 12 #[zT,zT,zT,zT,zT,zT,zT,zT,zT,zT,zT,zT,zT,zF] ?_ rfl ?hy13 ?rest13
     case hy13 => intro w; go_simp; (try with_reducible rfl)
     try simp only [Act.put, zp]
     obtain ⟨⟨p1, p2⟩, p3, p4⟩ := boxS ((j48.block _ (by omega)).trans h66)
     refine stepK (i := 13) (L := #[zT,zT,zT,zT,zT,zT,zT,zT,zT,zT,zT,zT,zT,zT]) rfl (by rfl) (by kernel_rfl) (by rfl) (fun K hK => ?_)
     go_simp
     refine hK _ _ ⟨fun h => absurd h (by decide), ?_⟩
     clear hK K
     try simp only [Act.put, zp]
     refine doneE (by kernel_rfl) ?_ _
     go_wp2
     refine bodyPost_ret (v := .agg #[.bool true, .slice A8 n8 c8]) (by simp [results, Try.results124, go_sem, p1, p2]) rfl ⟨A8, n8, c8, rfl, hc8, n8', ?_, ?_⟩
     · exact ((hb4.trans (j48.mono (by omega))).setCell (by simp) _).setCell (by simp) _
     · exact (ints_set (ints_set I8 (by omega) 0 _) (by omega) 1 _).more (by omega) (by simp [World.setCell])
   · skip
     have hneg : neg = false := by rw [← HN.out]; rw [decide_eq_true hqn]; rfl
     subst hneg
     clear HN
     obtain ⟨⟨p1, p2⟩, p3, p4⟩ := boxS h7
     have HQ := Lib.hid hqw
     go_wp2_with fail
     try clear hw4
     clear p1 p2 p3 p4
     refine region_E (Keeps w4) [13] (m := 14) (L := #[zF,zF,zF,zF,zF,zF,zF,zF,zF,zF,zF,zF,zF,zF]) (by kernel_rfl) (by rfl) (by rfl) ?_
     have kp_ : Keeps w4 w4.drew := fun _ _ => rfl
     have j5 : Below w4.heap.size w4 w4.drew := (Below.refl _ _).drew
     generalize w4.drew = w5 at *
     refine zE 0 #[zT,zF,zF,zF,zF,zF,zF,zF,zF,zF,zF,zF,zF,zF] ?_ rfl ?hy15 ?rest15
     case hy15 => intro w; go_simp; (try with_reducible rfl)
     try simp only [Act.put, zp]
     refine readE (i := 1) (L := #[zT,zT,zF,zF,zF,zF,zF,zF,zF,zF,zF,zF,zF,zF]) (v := .bool true) rfl (by rfl) (by kernel_rfl) (by kernel_rfl) (by kernel_rfl) (fun _ _ _ h => h) (by assumption) (by rfl) ?ya2 ?za2
     case ya2 =>
      intro w' h1
      obtain ⟨⟨p1, p2⟩, p3, p4⟩ := boxS ((h1 _ hs4).trans h7)
      go_simp
     try simp only [Act.put, zp]
     refine zE 2 #[zT,zT,zT,zF,zF,zF,zF,zF,zF,zF,zF,zF,zF,zF] ?_ rfl ?hy17 ?rest17
     case hy17 => intro w; go_simp; (try with_reducible rfl)
     try simp only [Act.put, zp]
     refine zE 3 #[zT,zT,zT,zT,zF,zF,zF,zF,zF,zF,zF,zF,zF,zF] ?_ rfl ?hy18 ?rest18
     case hy18 => intro w; go_simp; (try with_reducible rfl)
     try simp only [Act.put, zp]
     refine zE 4 #[zT,zT,zT,zT,zT,zF,zF,zF,zF,zF,zF,zF,zF,zF] ?_ rfl ?hy19 ?rest19
     case hy19 => intro w; go_simp; (try with_reducible rfl)
     try simp only [Act.put, zp]
     refine zE 5 #[zT,zT,zT,zT,zT,zT,zF,zF,zF,zF,zF,zF,zF,zF] ?_ rfl ?hy20 ?rest20
     case hy20 => intro w; go_simp; (try with_reducible rfl)
     try simp only [Act.put, zp]
     refine readE (i := 6) (L := #[zT,zT,zT,zT,zT,zT,zT,zF,zF,zF,zF,zF,zF,zF]) (v := .slice A1 n1 c1) rfl (by rfl) (by kernel_rfl) (by kernel_rfl) (by kernel_rfl) (fun _ _ _ h => h) (by assumption) (by rfl) ?yb2 ?zb2
     case yb2 =>
      intro w' h1
      obtain ⟨⟨p1, p2⟩, p3, p4⟩ := boxS ((h1 _ hs4).trans h7)
      go_simp
     try simp only [Act.put, zp]
     refine zE 7 #[zT,zT,zT,zT,zT,zT,zT,zT,zF,zF,zF,zF,zF,zF] ?_ rfl ?hy22 ?rest22
     case hy22 => intro w; go_simp; (try with_reducible rfl)
     try simp only [Act.put, zp]
     have hqw := HQ.out
     refine zE 8 #[zT,zT,zT,zT,zT,zT,zT,zT,zT,zF,zF,zF,zF,zF] ?_ rfl ?hy23 ?rest23
     case hy23 => intro w; go_simp; (try with_reducible rfl)
     try simp only [Act.put, zp]
     clear hqw
     refine stepK (i := 9) (L := #[zT,zT,zT,zT,zT,zT,zT,zT,zT,zT,zF,zF,zF,zF]) rfl (by rfl) (by kernel_rfl) (by rfl) (fun K hK => ?_)
     go_simp
     go_at_call 138
     refine (rOf1_any w5 q (by omega)).mono ?_
     rintro e w6 ⟨A6, n6, c6, rfl, hc6, j6, I6⟩
     have n6' : n6 ≤ 1 := by
      rw [← I6.len]
      exact canon_len (by decide) (by omega)
     refine hK _ _ ⟨fun _ _ p hp => Below.block (later j5 j6) p hp, ?_⟩
     clear hK K
     try simp only [Act.put, zp]
     refine stepK (i := 10) (L := #[zT,zT,zT,zT,zT,zT,zT,zT,zT,zT,zT,zF,zF,zF]) rfl (by rfl) (by kernel_rfl) (by rfl) (fun K hK => ?_)
     go_simp
     go_at_call 104
     refine (Digits_any w6 w5.heap.size w6.heap.size A6 n6 c6 _ I6 (canon_spec 4294967296 q (by decide)).1 (Nat.le_refl _) (by omega) q (canon_spec 4294967296 q (by decide)).2.2).mono ?_
     rintro e w7 ⟨A7, n7, c7, rfl, hc7, hn7, j7, I7⟩
     refine hK _ _ ⟨fun _ _ p hp => Below.block (later j5 (later j6 j7)) p hp, ?_⟩
     clear hK K
     try simp only [Act.put, zp]
     refine stepK (i := 11) (L := #[zT,zT,zT,zT,zT,zT,zT,zT,zT,zT,zT,zT,zF,zF]) rfl (by rfl) (by kernel_rfl) (by rfl) (fun K hK => ?_)
     go_simp
     go_at_call 137
     refine (Times1_any w7 A1 n1 c1 _ ((I4.below (later j5 (later j6 j7)) (Nat.le_of_lt hs4)).more (Nat.zero_le _) (by have := (later j5 (later j6 j7)).size; omega)) A7 n7 c7 q (I7.more (Nat.zero_le _) (Nat.le_refl _)) (by omega) (by omega) v HV.out).mono ?_
     rintro e w8 ⟨A8, n8, c8, rfl, hc8, j8, I8⟩
     have j48 := later j5 (later j6 (later j7 j8))
     have n8' : n8 ≤ 4000 := bits_prod HM.out hn (j := k - ex) (by omega) hq31 (by rw [HV.out]; exact I8.len)
     have t1 := (later j5 (later j6 j7)).size
     refine hK _ _ ⟨fun _ _ p hp => Below.block j48 p hp, ?_⟩
     clear hK K
     try simp only [Act.put, zp]
     refine zE 12 #[zT,zT,zT,zT,zT,zT,zT,zT,zT,zT,zT,zT,zT,zF] ?_ rfl ?hy27 ?rest27
     case hy27 => intro w; go_simp; (try with_reducible rfl)
     try simp only [Act.put, zp]
     obtain ⟨⟨p1, p2⟩, p3, p4⟩ := boxS ((j48.block _ (by omega)).trans h66)
     refine stepK (i := 13) (L := #[zT,zT,zT,zT,zT,zT,zT,zT,zT,zT,zT,zT,zT,zT]) rfl (by rfl) (by kernel_rfl) (by rfl) (fun K hK => ?_)
     go_simp
     refine hK _ _ ⟨fun h => absurd h (by decide), ?_⟩
     clear hK K
     try simp only [Act.put, zp]
     refine doneE (by kernel_rfl) ?_ _
     go_wp2
     refine bodyPost_ret (v := .agg #[.bool false, .slice A8 n8 c8]) (by simp [results, Try.results124, go_sem, p1, p2]) rfl ⟨A8, n8, c8, rfl, hc8, n8', ?_, ?_⟩
     · exact ((hb4.trans (j48.mono (by omega))).setCell (by simp) _).setCell (by simp) _
     · exact (ints_set (ints_set I8 (by omega) 0 _) (by omega) 1 _).more (by omega) (by simp [World.setCell])
 · obtain ⟨q, rfl⟩ : ∃ q : Nat, z = (q : Int) := ⟨z.natAbs, by omega⟩
   have hqn : ¬ (q : Int) < 0 := hz
   have hqw : IntKind.u64.wrap (q : Int) = (q : Int) := by rw [IntKind.wrap_u64]; omega
   have hwq : IntKind.i64.wrap (q : Int) = (q : Int) := by rw [IntKind.wrap_i64]; omega
   have hq31 : q < 2 ^ 31 := by omega
   have hna : ((q : Int)).natAbs = q := by omega
   rw [hna] at HV
   clear hna hz
   cases s
   · skip
     have hneg : neg = false := by rw [← HN.out]; rw [decide_eq_false hqn]; rfl
     subst hneg
     clear HN
     obtain ⟨⟨p1, p2⟩, p3, p4⟩ := boxS h7
     have HQ := Lib.hid hqw
     go_wp2_with fail
     try clear hw4
     clear p1 p2 p3 p4
     refine region_E (Keeps w4) [13] (m := 14) (L := #[zF,zF,zF,zF,zF,zF,zF,zF,zF,zF,zF,zF,zF,zF]) (by kernel_rfl) (by rfl) (by rfl) ?_
     have kp_ : Keeps w4 w4.drew := fun _ _ => rfl
     have j5 : Below w4.heap.size w4 w4.drew := (Below.refl _ _).drew
     generalize w4.drew = w5 at *
     refine zE 0 #[zT,zF,zF,zF,zF,zF,zF,zF,zF,zF,zF,zF,zF,zF] ?_ rfl ?hy29 ?rest29
     case hy29 => intro w; go_simp; (try with_reducible rfl)
     try simp only [Act.put, zp]
     refine readE (i := 1) (L := #[zT,zT,zF,zF,zF,zF,zF,zF,zF,zF,zF,zF,zF,zF]) (v := .bool false) rfl (by rfl) (by kernel_rfl) (by kernel_rfl) (by kernel_rfl) (fun _ _ _ h => h) (by assumption) (by rfl) ?ya3 ?za3
     case ya3 =>
      intro w' h1
      obtain ⟨⟨p1, p2⟩, p3, p4⟩ := boxS ((h1 _ hs4).trans h7)
      go_simp
     try simp only [Act.put, zp]
     refine zE 2 #[zT,zT,zT,zF,zF,zF,zF,zF,zF,zF,zF,zF,zF,zF] ?_ rfl ?hy31 ?rest31
     case hy31 => intro w; go_simp; (try with_reducible rfl)
     try simp only [Act.put, zp]
     refine zE 3 #[zT,zT,zT,zT,zF,zF,zF,zF,zF,zF,zF,zF,zF,zF] ?_ rfl ?hy32 ?rest32
     case hy32 => intro w; go_simp; (try with_reducible rfl)
     try simp only [Act.put, zp]
     refine zE 4 #[zT,zT,zT,zT,zT,zF,zF,zF,zF,zF,zF,zF,zF,zF] ?_ rfl ?hy33 ?rest33
     case hy33 => intro w; go_simp; (try with_reducible rfl)
     try simp only [Act.put, zp]
     refine zE 5 #[zT,zT,zT,zT,zT,zT,zF,zF,zF,zF,zF,zF,zF,zF] ?_ rfl ?hy34 ?rest34
     case hy34 => intro w; go_simp; (try with_reducible rfl)
     try simp only [Act.put, zp]
     refine readE (i := 6) (L := #[zT,zT,zT,zT,zT,zT,zT,zF,zF,zF,zF,zF,zF,zF]) (v := .slice A1 n1 c1) rfl (by rfl) (by kernel_rfl) (by kernel_rfl) (by kernel_rfl) (fun _ _ _ h => h) (by assumption) (by rfl) ?yb3 ?zb3
     case yb3 =>
      intro w' h1
      obtain ⟨⟨p1, p2⟩, p3, p4⟩ := boxS ((h1 _ hs4).trans h7)
      go_simp
     try simp only [Act.put, zp]
     refine zE 7 #[zT,zT,zT,zT,zT,zT,zT,zT,zF,zF,zF,zF,zF,zF] ?_ rfl ?hy36 ?rest36
     case hy36 => intro w; go_simp; (try with_reducible rfl)
     try simp only [Act.put, zp]
     have hqw := HQ.out
     refine zE 8 #[zT,zT,zT,zT,zT,zT,zT,zT,zT,zF,zF,zF,zF,zF] ?_ rfl ?hy37 ?rest37
     case hy37 => intro w; go_simp; (try with_reducible rfl)
     try simp only [Act.put, zp]
     clear hqw
     refine stepK (i := 9) (L := #[zT,zT,zT,zT,zT,zT,zT,zT,zT,zT,zF,zF,zF,zF]) rfl (by rfl) (by kernel_rfl) (by rfl) (fun K hK => ?_)
     go_simp
     go_at_call 138
     refine (rOf1_any w5 q (by omega)).mono ?_
     rintro e w6 ⟨A6, n6, c6, rfl, hc6, j6, I6⟩
     have n6' : n6 ≤ 1 := by
      rw [← I6.len]
      exact canon_len (by decide) (by omega)
     refine hK _ _ ⟨fun _ _ p hp => Below.block (later j5 j6) p hp, ?_⟩
     clear hK K
     try simp only [Act.put, zp]
     refine stepK (i := 10) (L := #[zT,zT,zT,zT,zT,zT,zT,zT,zT,zT,zT,zF,zF,zF]) rfl (by rfl) (by kernel_rfl) (by rfl) (fun K hK => ?_)
     go_simp
     go_at_call 104
     refine (Digits_any w6 w5.heap.size w6.heap.size A6 n6 c6 _ I6 (canon_spec 4294967296 q (by decide)).1 (Nat.le_refl _) (by omega) q (canon_spec 4294967296 q (by decide)).2.2).mono ?_
     rintro e w7 ⟨A7, n7, c7, rfl, hc7, hn7, j7, I7⟩
     refine hK _ _ ⟨fun _ _ p hp => Below.block (later j5 (later j6 j7)) p hp, ?_⟩
     clear hK K
     try simp only [Act.put, zp]
     refine stepK (i := 11) (L := #[zT,zT,zT,zT,zT,zT,zT,zT,zT,zT,zT,zT,zF,zF]) rfl (by rfl) (by kernel_rfl) (by rfl) (fun K hK => ?_)
     go_simp
     go_at_call 137
     refine (Times1_any w7 A1 n1 c1 _ ((I4.below (later j5 (later j6 j7)) (Nat.le_of_lt hs4)).more (Nat.zero_le _) (by have := (later j5 (later j6 j7)).size; omega)) A7 n7 c7 q (I7.more (Nat.zero_le _) (Nat.le_refl _)) (by omega) (by omega) v HV.out).mono ?_
     rintro e w8 ⟨A8, n8, c8, rfl, hc8, j8, I8⟩
     have j48 := later j5 (later j6 (later j7 j8))
     have n8' : n8 ≤ 4000 := bits_prod HM.out hn (j := k - ex) (by omega) hq31 (by rw [HV.out]; exact I8.len)
     have t1 := (later j5 (later j6 j7)).size
     refine hK _ _ ⟨fun _ _ p hp => Below.block j48 p hp, ?_⟩
     clear hK K
     try simp only [Act.put, zp]
     refine zE 12 #[zT,zT,zT,zT,zT,zT,zT,zT,zT,zT,zT,zT,zT,zF] ?_ rfl ?hy41 ?rest41
     case hy41 => intro w; go_simp; (try with_reducible rfl)
     try simp only [Act.put, zp]
     obtain ⟨⟨p1, p2⟩, p3, p4⟩ := boxS ((j48.block _ (by omega)).trans h66)
     refine stepK (i := 13) (L := #[zT,zT,zT,zT,zT,zT,zT,zT,zT,zT,zT,zT,zT,zT]) rfl (by rfl) (by kernel_rfl) (by rfl) (fun K hK => ?_)
     go_simp
     refine hK _ _ ⟨fun h => absurd h (by decide), ?_⟩
     clear hK K
     try simp only [Act.put, zp]
     refine doneE (by kernel_rfl) ?_ _
     go_wp2
     refine bodyPost_ret (v := .agg #[.bool false, .slice A8 n8 c8]) (by simp [results, Try.results124, go_sem, p1, p2]) rfl ⟨A8, n8, c8, rfl, hc8, n8', ?_, ?_⟩
     · exact ((hb4.trans (j48.mono (by omega))).setCell (by simp) _).setCell (by simp) _
     · exact (ints_set (ints_set I8 (by omega) 0 _) (by omega) 1 _).more (by omega) (by simp [World.setCell])
   · skip
     have hneg : neg = true := by rw [← HN.out]; rw [decide_eq_false hqn]; rfl
     subst hneg
     clear HN
     obtain ⟨⟨p1, p2⟩, p3, p4⟩ := boxS h7
     have HQ := Lib.hid hqw
     go_wp2_with fail
     try clear hw4
     clear p1 p2 p3 p4
     refine region_E (Keeps w4) [13] (m := 14) (L := #[zF,zF,zF,zF,zF,zF,zF,zF,zF,zF,zF,zF,zF,zF]) (by kernel_rfl) (by rfl) (by rfl) ?_
     have kp_ : Keeps w4 w4.drew := fun _ _ => rfl
     have j5 : Below w4.heap.size w4 w4.drew := (Below.refl _ _).drew
     generalize w4.drew = w5 at *
     refine zE 0 #[zT,zF,zF,zF,zF,zF,zF,zF,zF,zF,zF,zF,zF,zF] ?_ rfl ?hy43 ?rest43
     case hy43 => intro w; go_simp; (try with_reducible rfl)
     try simp only [Act.put, zp]
     refine readE (i := 1) (L := #[zT,zT,zF,zF,zF,zF,zF,zF,zF,zF,zF,zF,zF,zF]) (v := .bool true) rfl (by rfl) (by kernel_rfl) (by kernel_rfl) (by kernel_rfl) (fun _ _ _ h => h) (by assumption) (by rfl) ?ya4 ?za4
     case ya4 =>
      intro w' h1
      obtain ⟨⟨p1, p2⟩, p3, p4⟩ := boxS ((h1 _ hs4).trans h7)
      go_simp
     try simp only [Act.put, zp]
     refine zE 2 #[zT,zT,zT,zF,zF,zF,zF,zF,zF,zF,zF,zF,zF,zF] ?_ rfl ?hy45 ?rest45
     case hy45 => intro w; go_simp; (try with_reducible rfl)
     try simp only [Act.put, zp]
     refine zE 3 #[zT,zT,zT,zT,zF,zF,zF,zF,zF,zF,zF,zF,zF,zF] ?_ rfl ?hy46 ?rest46
     case hy46 => intro w; go_simp; (try with_reducible rfl)
     try simp only [Act.put, zp]
     refine zE 4 #[zT,zT,zT,zT,zT,zF,zF,zF,zF,zF,zF,zF,zF,zF] ?_ rfl ?hy47 ?rest47
     case hy47 => intro w; go_simp; (try with_reducible rfl)
     try simp only [Act.put, zp]
     refine zE 5 #[zT,zT,zT,zT,zT,zT,zF,zF,zF,zF,zF,zF,zF,zF] ?_ rfl ?hy48 ?rest48
     case hy48 => intro w; go_simp; (try with_reducible rfl)
     try simp only [Act.put, zp]
     refine readE (i := 6) (L := #[zT,zT,zT,zT,zT,zT,zT,zF,zF,zF,zF,zF,zF,zF]) (v := .slice A1 n1 c1) rfl (by rfl) (by kernel_rfl) (by kernel_rfl) (by kernel_rfl) (fun _ _ _ h => h) (by assumption) (by rfl) ?yb4 ?zb4
     case yb4 =>
      intro w' h1
      obtain ⟨⟨p1, p2⟩, p3, p4⟩ := boxS ((h1 _ hs4).trans h7)
      go_simp
     try simp only [Act.put, zp]
     refine zE 7 #[zT,zT,zT,zT,zT,zT,zT,zT,zF,zF,zF,zF,zF,zF] ?_ rfl ?hy50 ?rest50
     case hy50 => intro w; go_simp; (try with_reducible rfl)
     try simp only [Act.put, zp]
     have hqw := HQ.out
     refine zE 8 #[zT,zT,zT,zT,zT,zT,zT,zT,zT,zF,zF,zF,zF,zF] ?_ rfl ?hy51 ?rest51
     case hy51 => intro w; go_simp; (try with_reducible rfl)
     try simp only [Act.put, zp]
     clear hqw
     refine stepK (i := 9) (L := #[zT,zT,zT,zT,zT,zT,zT,zT,zT,zT,zF,zF,zF,zF]) rfl (by rfl) (by kernel_rfl) (by rfl) (fun K hK => ?_)
     go_simp
     go_at_call 138
     refine (rOf1_any w5 q (by omega)).mono ?_
     rintro e w6 ⟨A6, n6, c6, rfl, hc6, j6, I6⟩
     have n6' : n6 ≤ 1 := by
      rw [← I6.len]
      exact canon_len (by decide) (by omega)
     refine hK _ _ ⟨fun _ _ p hp => Below.block (later j5 j6) p hp, ?_⟩
     clear hK K
     try simp only [Act.put, zp]
     refine stepK (i := 10) (L := #[zT,zT,zT,zT,zT,zT,zT,zT,zT,zT,zT,zF,zF,zF]) rfl (by rfl) (by kernel_rfl) (by rfl) (fun K hK => ?_)
     go_simp
     go_at_call 104
     refine (Digits_any w6 w5.heap.size w6.heap.size A6 n6 c6 _ I6 (canon_spec 4294967296 q (by decide)).1 (Nat.le_refl _) (by omega) q (canon_spec 4294967296 q (by decide)).2.2).mono ?_
     rintro e w7 ⟨A7, n7, c7, rfl, hc7, hn7, j7, I7⟩
     refine hK _ _ ⟨fun _ _ p hp => Below.block (later j5 (later j6 j7)) p hp, ?_⟩
     clear hK K
     try simp only [Act.put, zp]
     refine stepK (i := 11) (L := #[zT,zT,zT,zT,zT,zT,zT,zT,zT,zT,zT,zT,zF,zF]) rfl (by rfl) (by kernel_rfl) (by rfl) (fun K hK => ?_)
     go_simp
     go_at_call 137
     refine (Times1_any w7 A1 n1 c1 _ ((I4.below (later j5 (later j6 j7)) (Nat.le_of_lt hs4)).more (Nat.zero_le _) (by have := (later j5 (later j6 j7)).size; omega)) A7 n7 c7 q (I7.more (Nat.zero_le _) (Nat.le_refl _)) (by omega) (by omega) v HV.out).mono ?_
     rintro e w8 ⟨A8, n8, c8, rfl, hc8, j8, I8⟩
     have j48 := later j5 (later j6 (later j7 j8))
     have n8' : n8 ≤ 4000 := bits_prod HM.out hn (j := k - ex) (by omega) hq31 (by rw [HV.out]; exact I8.len)
     have t1 := (later j5 (later j6 j7)).size
     refine hK _ _ ⟨fun _ _ p hp => Below.block j48 p hp, ?_⟩
     clear hK K
     try simp only [Act.put, zp]
     refine zE 12 #[zT,zT,zT,zT,zT,zT,zT,zT,zT,zT,zT,zT,zT,zF] ?_ rfl ?hy55 ?rest55
     case hy55 => intro w; go_simp; (try with_reducible rfl)
     try simp only [Act.put, zp]
     obtain ⟨⟨p1, p2⟩, p3, p4⟩ := boxS ((j48.block _ (by omega)).trans h66)
     refine stepK (i := 13) (L := #[zT,zT,zT,zT,zT,zT,zT,zT,zT,zT,zT,zT,zT,zT]) rfl (by rfl) (by kernel_rfl) (by rfl) (fun K hK => ?_)
     go_simp
     refine hK _ _ ⟨fun h => absurd h (by decide), ?_⟩
     clear hK K
     try simp only [Act.put, zp]
     refine doneE (by kernel_rfl) ?_ _
     go_wp2
     refine bodyPost_ret (v := .agg #[.bool true, .slice A8 n8 c8]) (by simp [results, Try.results124, go_sem, p1, p2]) rfl ⟨A8, n8, c8, rfl, hc8, n8', ?_, ?_⟩
     · exact ((hb4.trans (j48.mono (by omega))).setCell (by simp) _).setCell (by simp) _
     · exact (ints_set (ints_set I8 (by omega) 0 _) (by omega) 1 _).more (by omega) (by simp [World.setCell])
end Ma
end Go.Proofs.Ytbbnbgllgomolaa
namespace Go.Proofs.Ytbbnbgllgomolaa
open Go.RowKit
namespace Ma
open Dp Dy
theorem sg_times (s : Bool) (n : Nat) (z : Int) : sg (s != decide (z < 0)) (n * z.natAbs) = z * sg s n := by
 have h : ((n * z.natAbs : Nat) : Int) = (n : Int) * (z.natAbs : Int) := Int.natCast_mul _ _
 unfold sg
 by_cases hz : z < 0
 · have e : (z.natAbs : Int) = -z := by omega
   cases s <;> simp [hz, h, e, Int.mul_neg, Int.mul_comm]
 · have e : (z.natAbs : Int) = z := by omega
   cases s <;> simp [hz, h, e, Int.mul_neg, Int.mul_comm]
theorem sg_notP (s : Bool) (n : Nat) : sg (!s) n = -sg s n := by
 unfold sg
 cases s <;> simp
theorem vl_at (a : Dn) (K : Nat) : sg a.neg (2 ^ (K - a.e) * a.m) = vl a K := by
 unfold vl
 rw [Nat.mul_comm]
theorem lies_two {a b : Dn} {K : Nat} (h1 : a.e ≤ K) (h2 : b.e ≤ K) {low high : Int} {r1 r2 : Bool} (e1 : decide (0 ≤ vl a K + -low * vl b K) = r1) (e2 : r1 = true → decide (0 ≤ -vl a K + high * vl b K) = r2) : (r1 && r2) = true ↔ liesD a b low high := by
 have key : liesD a b low high ↔ (low * vl b K ≤ vl a K ∧ vl a K ≤ high * vl b K) := ⟨fun h => lies_at h h1 h2, fun h => ⟨K, h1, h2, h.1, h.2⟩⟩
 rw [key, Bool.and_eq_true]
 have hneg : -low * vl b K = -(low * vl b K) := Int.neg_mul _ _
 rw [hneg] at e1
 generalize low * vl b K = p at *
 generalize high * vl b K = q at *
 generalize vl a K = x at *
 constructor
 · rintro ⟨k1, k2⟩
   rw [k1] at e1
   have e3 := e2 k1
   rw [k2] at e3
   have := of_decide_eq_true e1
   have := of_decide_eq_true e3
   omega
 · rintro ⟨k1, k2⟩
   have t1 : r1 = true := by rw [← e1]; exact decide_eq_true (by omega)
   exact ⟨t1, by rw [← e2 t1]; exact decide_eq_true (by omega)⟩
set_option maxHeartbeats 51200000 in
set_option maxRecDepth 100000 in
theorem Lies15_any (w : World) (m : Mv) (hR : MRows w 0 w.heap.size m) (hm : m.may) (low high : Int) (hl0 : -2147483647 ≤ low) (hl1 : low ≤ 2147483647) (hh0 : -2147483647 ≤ high) (hh1 : high ≤ 2147483647) (r : Bool) (hr : r = true ↔ liesM m low high) :
  Calls Try.prog 93 #[.agg #[.bool m.S.s, .slice m.S.A m.S.n m.S.c, .int .i64 m.S.e, .bool m.W.s, .slice m.W.A m.W.n m.W.c, .int .i64 m.W.e, .bool m.C.s, .slice m.C.A m.C.n m.C.c, .int .i64 m.C.e, .bool m.A.s, .slice m.A.A m.A.n m.A.c, .int .i64 m.A.e], .int .i64 low, .int .i64 high] w fun e w' => e = .returned (.bool r) ∧ Below w.heap.size w w' := by
 obtain ⟨a, hae⟩ : ∃ a, dnM m 0 = a := ⟨_, rfl⟩
 obtain ⟨b, hbe⟩ : ∃ b, dnM m 1 = b := ⟨_, rfl⟩
 have hr2 : r = true ↔ liesD a b low high := by rw [← hae, ← hbe]; exact hr
 have HR := Lib.hid hr2
 have oa := dn_ok (s := m.S.s) (e := m.S.e) (dig_ints hR.S) (hm 0 (by decide))
 have ob := dn_ok (s := m.W.s) (e := m.W.e) (dig_ints hR.W) (hm 1 (by decide))
 have ea : dn m.S.s m.S.xs m.S.e = a := hae
 have eb : dn m.W.s m.W.xs m.W.e = b := hbe
 have sS : m.S.s = a.neg := by rw [← ea]; rfl
 have sW : m.W.s = b.neg := by rw [← eb]; rfl
 rw [ea] at oa
 rw [eb] at ob
 obtain ⟨ma, xS, eS⟩ := oa
 obtain ⟨mb, xW, eW⟩ := ob
 have IS : Ints w 0 w.heap.size .u32 m.S.A m.S.n (canon 4294967296 a.m) := by rw [xS]; exact hR.S
 have IW : Ints w 0 w.heap.size .u32 m.W.A m.W.n (canon 4294967296 b.m) := by rw [xW]; exact hR.W
 have nS := ints_may IS ma
 have nW := ints_may IW mb
 have ka := ma.2.1
 have kb := mb.2.1
 clear hr hr2 hae hbe ea eb ma mb xS xW hm hR
 obtain ⟨Kq, hK⟩ : ∃ M, max a.e b.e = M := ⟨_, rfl⟩
 have hK1 : a.e ≤ Kq := by omega
 have hK2 : b.e ≤ Kq := by omega
 have hK3 : Kq ≤ 1024 := by omega
 have hmax : max (a.e : Int) (b.e : Int) = (Kq : Int) := by omega
 have M0 : MBox (w.alloc (.cells #[.bool m.S.s, .slice m.S.A m.S.n m.S.c, .int .i64 m.S.e, .bool m.W.s, .slice m.W.A m.W.n m.W.c, .int .i64 m.W.e, .bool m.C.s, .slice m.C.A m.C.n m.C.c, .int .i64 m.C.e, .bool m.A.s, .slice m.A.A m.A.n m.A.c, .int .i64 m.A.e] 27)) w.heap.size m := heap_alloc_last _ _
 have j1 : Below w.heap.size w (w.alloc (.cells #[.bool m.S.s, .slice m.S.A m.S.n m.S.c, .int .i64 m.S.e, .bool m.W.s, .slice m.W.A m.W.n m.W.c, .int .i64 m.W.e, .bool m.C.s, .slice m.C.A m.C.n m.C.c, .int .i64 m.C.e, .bool m.A.s, .slice m.A.A m.A.n m.A.c, .int .i64 m.A.e] 27)) := (Below.refl _ w).alloc (Nat.le_refl _) _
 have S1 : w.heap.size < (w.alloc (.cells #[.bool m.S.s, .slice m.S.A m.S.n m.S.c, .int .i64 m.S.e, .bool m.W.s, .slice m.W.A m.W.n m.W.c, .int .i64 m.W.e, .bool m.C.s, .slice m.C.A m.C.n m.C.c, .int .i64 m.C.e, .bool m.A.s, .slice m.A.A m.A.n m.A.c, .int .i64 m.A.e] 27)).heap.size := by simp
 generalize hw1 : w.alloc (.cells #[.bool m.S.s, .slice m.S.A m.S.n m.S.c, .int .i64 m.S.e, .bool m.W.s, .slice m.W.A m.W.n m.W.c, .int .i64 m.W.e, .bool m.C.s, .slice m.C.A m.C.n m.C.c, .int .i64 m.C.e, .bool m.A.s, .slice m.A.A m.A.n m.A.c, .int .i64 m.A.e] 27) = w1 at *
 clear hK
 obtain ⟨⟨k0, k1, k2, k3, k4, k5, k6, k7, k8, k9, k10, k11⟩, kf⟩ := MBox.cells M0
 rw [← eS] at k2
 rw [← eW] at k5
 rw [sS] at k0
 rw [sW] at k3
 have ES := Lib.hid eS
 have EW := Lib.hid eW
 have SW := Lib.hid sW
 clear eS eW sS sW
 go_enter Try.func93, Try.ntmps93
 go_wp2_with fail
 refine (In_any w1 a.neg a.m a.e m.S.A m.S.n m.S.c (ints_on IS j1) nS Kq hK1 (by omega) (2 ^ (Kq - a.e) * a.m) rfl _ rfl).mono ?_
 rintro e' v1 ⟨A1, n1, c1, rfl, hc1, hn1, j2, I1⟩
 clear k0 k1 k2 k3 k4 k5 k6 k7 k8 k9 k10 k11 kf
 try clear hw1
 clear hmax
 obtain ⟨v3, hw⟩ : ∃ U, v1.alloc (.cells #[.bool a.neg, .slice A1 n1 c1] 110) = U := ⟨_, rfl⟩
 have b8 : v3.heap[v1.heap.size]? = some (.cells #[.bool a.neg, .slice A1 n1 c1] 110 (0, 0)) := by rw [← hw]; exact heap_alloc_last _ _
 have j4 : Below v1.heap.size v1 v3 := by rw [← hw]; exact (Below.refl _ _).alloc (Nat.le_refl _) _
 have s5 : v1.heap.size < v3.heap.size := by rw [← hw]; simp
 obtain ⟨⟨p1, p2⟩, p3, p4⟩ := boxS b8
 obtain ⟨v6, hw9⟩ : ∃ U, v3.alloc (.cells #[.bool (!a.neg), .slice A1 n1 c1] 110) = U := ⟨_, rfl⟩
 have b9 : v6.heap[v3.heap.size]? = some (.cells #[.bool (!a.neg), .slice A1 n1 c1] 110 (0, 0)) := by rw [← hw9]; exact heap_alloc_last _ _
 have j7 : Below v3.heap.size v3 v6 := by rw [← hw9]; exact (Below.refl _ _).alloc (Nat.le_refl _) _
 have s8 : v3.heap.size < v6.heap.size := by rw [← hw9]; simp
 go_wp2_with fail
 try clear hw
 try clear hw9
 clear p1 p2 p3 p4
 try clear hw
 refine region_E (Keeps v6) [] (m := 20) (L := #[zF,zF,zF,zF,zF,zF,zF,zF,zF,zF,zF,zF,zF,zF,zF,zF,zF,zF,zF,zF]) (by kernel_rfl) (by rfl) (by rfl) ?_
 have j10 : Below v6.heap.size v6 v6.drew := (Below.refl _ _).drew
 generalize v6.drew = v9 at *
 have kpy11 : Keeps v6 v9 := fun p hp => Below.block j10 p hp
 refine readE (i := 0) (L := #[zT,zF,zF,zF,zF,zF,zF,zF,zF,zF,zF,zF,zF,zF,zF,zF,zF,zF,zF,zF]) (v := .agg #[.bool a.neg, .slice A1 n1 c1]) rfl (by rfl) (by kernel_rfl) (by kernel_rfl) (by kernel_rfl) (fun _ _ _ h => h) (by assumption) (by rfl) ?y11 ?z12
 case y11 =>
  intro w' h1
  obtain ⟨⟨p1, p2⟩, p3, p4⟩ := boxS ((h1 _ (Nat.lt_of_lt_of_le s5 (Below.size j7))).trans (box_later b8 j7 s5))
  go_simp
 try simp only [Act.put, zp]
 refine zE 1 #[zT,zT,zF,zF,zF,zF,zF,zF,zF,zF,zF,zF,zF,zF,zF,zF,zF,zF,zF,zF] ?_ rfl ?hy58 ?rest58
 case hy58 => intro w; go_simp; (try with_reducible rfl)
 try simp only [Act.put, zp]
 have kpy13 : Keeps v6 v9 := fun p hp => Below.block j10 p hp
 refine readE (i := 2) (L := #[zT,zT,zT,zF,zF,zF,zF,zF,zF,zF,zF,zF,zF,zF,zF,zF,zF,zF,zF,zF]) (v := .agg #[.bool b.neg, .slice m.W.A m.W.n m.W.c, .int .i64 b.e]) rfl (by rfl) (by kernel_rfl) (by kernel_rfl) (by kernel_rfl) (fun _ _ _ h => h) (by assumption) (by rfl) ?y13 ?z14
 case y13 =>
  intro w' h1
  obtain ⟨⟨k0, k1, k2, k3, k4, k5, k6, k7, k8, k9, k10, k11⟩, kf⟩ := MBox.cells ((h1 _ (Nat.lt_of_lt_of_le S1 (Below.size (later j2 (later j4 j7))))).trans (box_later M0 (later j2 (later j4 j7)) S1))
  rw [← EW.out] at k5
  rw [SW.out] at k3
  go_simp
 try simp only [Act.put, zp]
 refine zE 3 #[zT,zT,zT,zT,zF,zF,zF,zF,zF,zF,zF,zF,zF,zF,zF,zF,zF,zF,zF,zF] ?_ rfl ?hy60 ?rest60
 case hy60 => intro w; go_simp; (try with_reducible rfl)
 try simp only [Act.put, zp]
 refine zE 4 #[zT,zT,zT,zT,zT,zF,zF,zF,zF,zF,zF,zF,zF,zF,zF,zF,zF,zF,zF,zF] ?_ rfl ?hy61 ?rest61
 case hy61 => intro w; go_simp; (try with_reducible rfl)
 try simp only [Act.put, zp]
 have hnl : IntKind.i64.wrap (-low) = -low := by rw [IntKind.wrap_i64]; omega
 refine zE 5 #[zT,zT,zT,zT,zT,zT,zF,zF,zF,zF,zF,zF,zF,zF,zF,zF,zF,zF,zF,zF] ?_ rfl ?hy62 ?rest62
 case hy62 => intro w; go_simp; (try with_reducible rfl)
 try simp only [Act.put, zp]
 clear hnl
 obtain ⟨nb, hnb⟩ : ∃ s, (b.neg != decide (-low < 0)) = s := ⟨_, rfl⟩
 obtain ⟨v2, hv2⟩ : ∃ v, 2 ^ (Kq - b.e) * b.m * (-low).natAbs = v := ⟨_, rfl⟩
 replace hnb := Lib.hid hnb
 replace hv2 := Lib.hid hv2
 refine stepK (i := 6) (L := #[zT,zT,zT,zT,zT,zT,zT,zF,zF,zF,zF,zF,zF,zF,zF,zF,zF,zF,zF,zF]) rfl (by rfl) (by kernel_rfl) (by rfl) (fun K hK => ?_)
 go_simp
 go_at_call 124
 refine (Times15_any v9 b.neg b.m b.e m.W.A m.W.n m.W.c (ints_on IW (later j1 (later j2 (later j4 (later j7 j10))))) nW Kq hK2 (by omega) (-low) (by omega) (by omega) nb hnb.out v2 hv2.out).mono ?_
 rintro e' v15 ⟨A2, n2, c2, rfl, hc2, hn2, j16, I2⟩
 refine hK _ _ ⟨fun _ _ => fun p hp => Below.block (later j10 j16) p hp, ?_⟩
 clear hK K
 try simp only [Act.put, zp]
 obtain ⟨s3, v3, h3⟩ : ∃ s v, plusS a.neg (2 ^ (Kq - a.e) * a.m) nb v2 = (s, v) := ⟨_, _, rfl⟩
 have H3 := plusS_sg a.neg (2 ^ (Kq - a.e) * a.m) nb v2
 rw [h3, ← hnb.out, ← hv2.out, sg_times, vl_at, vl_at] at H3
 replace H3 := Lib.hid H3
 replace h3 := Lib.hid h3
 refine stepK (i := 7) (L := #[zT,zT,zT,zT,zT,zT,zT,zT,zF,zF,zF,zF,zF,zF,zF,zF,zF,zF,zF,zF]) rfl (by rfl) (by kernel_rfl) (by rfl) (fun K hK => ?_)
 go_simp
 go_at_call 79
 refine (rPlus_any v15 a.neg nb _ v2 A1 n1 c1 A2 n2 c2 (Ints.more (Ints.below I1 (later j4 (later j7 (later j10 j16))) (Nat.le_refl _)) (Nat.zero_le _) (Below.size (later j4 (later j7 (later j10 j16))))) (Ints.more I2 (Nat.zero_le _) (Nat.le_refl _)) hn1 hn2 s3 v3 h3.out).mono ?_
 rintro e' v17 ⟨A3, n3, c3, rfl, hc3, j18, I3⟩
 refine hK _ _ ⟨fun _ _ => fun p hp => Below.block (later j10 (later j16 j18)) p hp, ?_⟩
 clear hK K
 try simp only [Act.put, zp]
 refine stepK (i := 8) (L := #[zT,zT,zT,zT,zT,zT,zT,zT,zT,zF,zF,zF,zF,zF,zF,zF,zF,zF,zF,zF]) rfl (by rfl) (by kernel_rfl) (by rfl) (fun K hK => ?_)
 go_simp
 go_at_call 123
 refine (least15_any v17 s3 A3 n3 c3 v3 (Ints.more I3 (Nat.zero_le _) (Nat.le_refl _)) hc3 _ rfl).mono ?_
 rintro e' v19 ⟨rfl, j20⟩
 refine hK _ _ ⟨fun _ _ => fun p hp => Below.block (later j10 (later j16 (later j18 j20))) p hp, ?_⟩
 clear hK K
 try simp only [Act.put, zp]
 obtain ⟨r1, hr1⟩ : ∃ r, decide (0 ≤ sg s3 v3) = r := ⟨_, rfl⟩
 have Er1 : Hid (decide (0 ≤ vl a Kq + -low * vl b Kq) = r1) := Lib.hid (by rw [← H3.out]; exact hr1)
 rw [hr1]
 clear H3 h3 hr1
 refine zE 9 #[zT,zT,zT,zT,zT,zT,zT,zT,zT,zT,zF,zF,zF,zF,zF,zF,zF,zF,zF,zF] ?_ rfl ?hy66 ?rest66
 case hy66 => intro w; go_simp; (try with_reducible rfl)
 try simp only [Act.put, zp]
 cases r1
 rotate_left
 · skip
   have kpy21 : Keeps v6 v19 := fun p hp => Below.block (later j10 (later j16 (later j18 j20))) p hp
   refine readE (i := 10) (L := #[zT,zT,zT,zT,zT,zT,zT,zT,zT,zT,zT,zF,zF,zF,zF,zF,zF,zF,zF,zF]) (v := .agg #[.bool (!a.neg), .slice A1 n1 c1]) rfl (by rfl) (by kernel_rfl) (by kernel_rfl) (by kernel_rfl) (fun _ _ _ h => h) (by assumption) (by rfl) ?y21 ?z22
   case y21 =>
    intro w' h1
    obtain ⟨⟨p1, p2⟩, p3, p4⟩ := boxS ((h1 _ s8).trans b9)
    go_simp
   try simp only [Act.put, zp]
   refine zE 11 #[zT,zT,zT,zT,zT,zT,zT,zT,zT,zT,zT,zT,zF,zF,zF,zF,zF,zF,zF,zF] ?_ rfl ?hy68 ?rest68
   case hy68 => intro w; go_simp; (try with_reducible rfl)
   try simp only [Act.put, zp]
   have kpy23 : Keeps v6 v19 := fun p hp => Below.block (later j10 (later j16 (later j18 j20))) p hp
   refine readE (i := 12) (L := #[zT,zT,zT,zT,zT,zT,zT,zT,zT,zT,zT,zT,zT,zF,zF,zF,zF,zF,zF,zF]) (v := .agg #[.bool b.neg, .slice m.W.A m.W.n m.W.c, .int .i64 b.e]) rfl (by rfl) (by kernel_rfl) (by kernel_rfl) (by kernel_rfl) (fun _ _ _ h => h) (by assumption) (by rfl) ?y23 ?z24
   case y23 =>
    intro w' h1
    obtain ⟨⟨k0, k1, k2, k3, k4, k5, k6, k7, k8, k9, k10, k11⟩, kf⟩ := MBox.cells ((h1 _ (Nat.lt_of_lt_of_le S1 (Below.size (later j2 (later j4 j7))))).trans (box_later M0 (later j2 (later j4 j7)) S1))
    rw [← EW.out] at k5
    rw [SW.out] at k3
    go_simp
   try simp only [Act.put, zp]
   refine zE 13 #[zT,zT,zT,zT,zT,zT,zT,zT,zT,zT,zT,zT,zT,zT,zF,zF,zF,zF,zF,zF] ?_ rfl ?hy70 ?rest70
   case hy70 => intro w; go_simp; (try with_reducible rfl)
   try simp only [Act.put, zp]
   refine zE 14 #[zT,zT,zT,zT,zT,zT,zT,zT,zT,zT,zT,zT,zT,zT,zT,zF,zF,zF,zF,zF] ?_ rfl ?hy71 ?rest71
   case hy71 => intro w; go_simp; (try with_reducible rfl)
   try simp only [Act.put, zp]
   obtain ⟨nb, hnb⟩ : ∃ s, (b.neg != decide (high < 0)) = s := ⟨_, rfl⟩
   obtain ⟨v2, hv2⟩ : ∃ v, 2 ^ (Kq - b.e) * b.m * (high).natAbs = v := ⟨_, rfl⟩
   replace hnb := Lib.hid hnb
   replace hv2 := Lib.hid hv2
   refine stepK (i := 15) (L := #[zT,zT,zT,zT,zT,zT,zT,zT,zT,zT,zT,zT,zT,zT,zT,zT,zF,zF,zF,zF]) rfl (by rfl) (by kernel_rfl) (by rfl) (fun K hK => ?_)
   go_simp
   go_at_call 124
   refine (Times15_any v19 b.neg b.m b.e m.W.A m.W.n m.W.c (ints_on IW (later j1 (later j2 (later j4 (later j7 (later j10 (later j16 (later j18 j20)))))))) nW Kq hK2 (by omega) (high) (by omega) (by omega) nb hnb.out v2 hv2.out).mono ?_
   rintro e' v25 ⟨A2, n2, c2, rfl, hc2, hn2, j26, I2⟩
   refine hK _ _ ⟨fun _ _ => fun p hp => Below.block (later j10 (later j16 (later j18 (later j20 j26)))) p hp, ?_⟩
   clear hK K
   try simp only [Act.put, zp]
   obtain ⟨s3, v3, h3⟩ : ∃ s v, plusS (!a.neg) (2 ^ (Kq - a.e) * a.m) nb v2 = (s, v) := ⟨_, _, rfl⟩
   have H3 := plusS_sg (!a.neg) (2 ^ (Kq - a.e) * a.m) nb v2
   rw [h3, ← hnb.out, ← hv2.out, sg_times, sg_notP, vl_at, vl_at] at H3
   replace H3 := Lib.hid H3
   replace h3 := Lib.hid h3
   refine stepK (i := 16) (L := #[zT,zT,zT,zT,zT,zT,zT,zT,zT,zT,zT,zT,zT,zT,zT,zT,zT,zF,zF,zF]) rfl (by rfl) (by kernel_rfl) (by rfl) (fun K hK => ?_)
   go_simp
   go_at_call 79
   refine (rPlus_any v25 (!a.neg) nb _ v2 A1 n1 c1 A2 n2 c2 (Ints.more (Ints.below I1 (later j4 (later j7 (later j10 (later j16 (later j18 (later j20 j26)))))) (Nat.le_refl _)) (Nat.zero_le _) (Below.size (later j4 (later j7 (later j10 (later j16 (later j18 (later j20 j26)))))))) (Ints.more I2 (Nat.zero_le _) (Nat.le_refl _)) hn1 hn2 s3 v3 h3.out).mono ?_
   rintro e' v27 ⟨A3, n3, c3, rfl, hc3, j28, I3⟩
   refine hK _ _ ⟨fun _ _ => fun p hp => Below.block (later j10 (later j16 (later j18 (later j20 (later j26 j28))))) p hp, ?_⟩
   clear hK K
   try simp only [Act.put, zp]
   refine stepK (i := 17) (L := #[zT,zT,zT,zT,zT,zT,zT,zT,zT,zT,zT,zT,zT,zT,zT,zT,zT,zT,zF,zF]) rfl (by rfl) (by kernel_rfl) (by rfl) (fun K hK => ?_)
   go_simp
   go_at_call 123
   refine (least15_any v27 s3 A3 n3 c3 v3 (Ints.more I3 (Nat.zero_le _) (Nat.le_refl _)) hc3 _ rfl).mono ?_
   rintro e' v29 ⟨rfl, j30⟩
   refine hK _ _ ⟨fun _ _ => fun p hp => Below.block (later j10 (later j16 (later j18 (later j20 (later j26 (later j28 j30)))))) p hp, ?_⟩
   clear hK K
   try simp only [Act.put, zp]
   obtain ⟨r2, hr2⟩ : ∃ r, decide (0 ≤ sg s3 v3) = r := ⟨_, rfl⟩
   have Er2 : Hid (decide (0 ≤ -vl a Kq + high * vl b Kq) = r2) := Lib.hid (by rw [← H3.out]; exact hr2)
   rw [hr2]
   clear H3 h3 hr2
   have hrr : r = r2 := by
    have k := lies_two hK1 hK2 Er1.out (fun _ => Er2.out)
    rw [Bool.true_and, ← HR.out] at k
    cases r <;> cases r2 <;> simp_all
   subst hrr
   clear Er1 Er2 HR
   cases r
   · skip
     refine zE 18 #[zT,zT,zT,zT,zT,zT,zT,zT,zT,zT,zT,zT,zT,zT,zT,zT,zT,zT,zT,zF] ?_ rfl ?hy75 ?rest75
     case hy75 => intro w; go_simp; (try with_reducible rfl)
     try simp only [Act.put, zp]
     refine zE 19 #[zT,zT,zT,zT,zT,zT,zT,zT,zT,zT,zT,zT,zT,zT,zT,zT,zT,zT,zT,zT] ?_ rfl ?hy76 ?rest76
     case hy76 => intro w; go_simp; (try with_reducible rfl)
     try simp only [Act.put, zp]
     refine doneE (by kernel_rfl) ?_ _
     go_wp2
     go_ret
     exact ⟨rfl, (later j1 (later j2 (later j4 (later j7 (later j10 (later j16 (later j18 (later j20 (later j26 (later j28 j30))))))))))⟩
   · skip
     refine zE 18 #[zT,zT,zT,zT,zT,zT,zT,zT,zT,zT,zT,zT,zT,zT,zT,zT,zT,zT,zT,zF] ?_ rfl ?hy77 ?rest77
     case hy77 => intro w; go_simp; (try with_reducible rfl)
     try simp only [Act.put, zp]
     refine zE 19 #[zT,zT,zT,zT,zT,zT,zT,zT,zT,zT,zT,zT,zT,zT,zT,zT,zT,zT,zT,zT] ?_ rfl ?hy78 ?rest78
     case hy78 => intro w; go_simp; (try with_reducible rfl)
     try simp only [Act.put, zp]
     refine doneE (by kernel_rfl) ?_ _
     go_wp2
     go_ret
     exact ⟨rfl, (later j1 (later j2 (later j4 (later j7 (later j10 (later j16 (later j18 (later j20 (later j26 (later j28 j30))))))))))⟩
 · skip
   have hrr : r = false := by
    have k := lies_two (high := high) (r2 := false) hK1 hK2 Er1.out (fun h => by cases h)
    rw [Bool.false_and, ← HR.out] at k
    cases r <;> simp_all
   subst hrr
   clear Er1 HR
   refine skipE (i := 10) (L := #[zT,zT,zT,zT,zT,zT,zT,zT,zT,zT,zT,zF,zF,zF,zF,zF,zF,zF,zF,zF]) rfl (by rfl) (by kernel_rfl) (by kernel_rfl) (by kernel_rfl) (fun _ _ _ h => h) (by rfl) ?_
   try simp only [Act.put, zp]
   refine skipE (i := 11) (L := #[zT,zT,zT,zT,zT,zT,zT,zT,zT,zT,zT,zT,zF,zF,zF,zF,zF,zF,zF,zF]) rfl (by rfl) (by kernel_rfl) (by kernel_rfl) (by kernel_rfl) (fun _ _ _ h => h) (by rfl) ?_
   try simp only [Act.put, zp]
   refine skipE (i := 12) (L := #[zT,zT,zT,zT,zT,zT,zT,zT,zT,zT,zT,zT,zT,zF,zF,zF,zF,zF,zF,zF]) rfl (by rfl) (by kernel_rfl) (by kernel_rfl) (by kernel_rfl) (fun _ _ _ h => h) (by rfl) ?_
   try simp only [Act.put, zp]
   refine skipE (i := 13) (L := #[zT,zT,zT,zT,zT,zT,zT,zT,zT,zT,zT,zT,zT,zT,zF,zF,zF,zF,zF,zF]) rfl (by rfl) (by kernel_rfl) (by kernel_rfl) (by kernel_rfl) (fun _ _ _ h => h) (by rfl) ?_
   try simp only [Act.put, zp]
   refine skipE (i := 14) (L := #[zT,zT,zT,zT,zT,zT,zT,zT,zT,zT,zT,zT,zT,zT,zT,zF,zF,zF,zF,zF]) rfl (by rfl) (by kernel_rfl) (by kernel_rfl) (by kernel_rfl) (fun _ _ _ h => h) (by rfl) ?_
   try simp only [Act.put, zp]
   refine skipE (i := 15) (L := #[zT,zT,zT,zT,zT,zT,zT,zT,zT,zT,zT,zT,zT,zT,zT,zT,zF,zF,zF,zF]) rfl (by rfl) (by kernel_rfl) (by kernel_rfl) (by kernel_rfl) (fun _ _ _ h => h) (by rfl) ?_
   try simp only [Act.put, zp]
   refine skipE (i := 16) (L := #[zT,zT,zT,zT,zT,zT,zT,zT,zT,zT,zT,zT,zT,zT,zT,zT,zT,zF,zF,zF]) rfl (by rfl) (by kernel_rfl) (by kernel_rfl) (by kernel_rfl) (fun _ _ _ h => h) (by rfl) ?_
   try simp only [Act.put, zp]
   refine skipE (i := 17) (L := #[zT,zT,zT,zT,zT,zT,zT,zT,zT,zT,zT,zT,zT,zT,zT,zT,zT,zT,zF,zF]) rfl (by rfl) (by kernel_rfl) (by kernel_rfl) (by kernel_rfl) (fun _ _ _ h => h) (by rfl) ?_
   try simp only [Act.put, zp]
   refine zE 18 #[zT,zT,zT,zT,zT,zT,zT,zT,zT,zT,zT,zT,zT,zT,zT,zT,zT,zT,zT,zF] ?_ rfl ?hy79 ?rest79
   case hy79 => intro w; go_simp; (try with_reducible rfl)
   try simp only [Act.put, zp]
   refine zE 19 #[zT,zT,zT,zT,zT,zT,zT,zT,zT,zT,zT,zT,zT,zT,zT,zT,zT,zT,zT,zT] ?_ rfl ?hy80 ?rest80
   case hy80 => intro w; go_simp; (try with_reducible rfl)
   try simp only [Act.put, zp]
   refine doneE (by kernel_rfl) ?_ _
   go_wp2
   go_ret
   exact ⟨rfl, (later j1 (later j2 (later j4 (later j7 (later j10 (later j16 (later j18 j20)))))))⟩
end Ma
end Go.Proofs.Ytbbnbgllgomolaa
namespace Go.Proofs.Ytbbnbgllgomolaa
open Go.RowKit
namespace Ma
open Dp Dy
theorem share_ask {w : World} {lo hi : Nat} {m : Mv} (hR : MRows w lo hi m) (hs : m.share) (hn : m.W.n ≠ 0) {k : Int} (k0 : 0 ≤ k) (k1 : k ≤ 64) : askX m.S.s m.S.xs m.S.e m.W.s m.W.xs m.W.e k = 0 := by
 have hx : m.W.xs ≠ [] := fun h => hn ((xs_nil hR.W).2 h)
 have m0 : MayD m.S.s m.S.xs m.S.e := hs.1 0 (by decide)
 have m1 : MayD m.W.s m.W.xs m.W.e := hs.1 1 (by decide)
 unfold askX
 rw [if_pos ⟨m0, m1⟩, if_neg]
 rintro (h | h | h | h)
 · rw [hs.2.1] at h
   cases h
 · exact hx h
 · omega
 · omega
theorem down_code {m : Mv} {k : Int} {r : Dn} {q : Int} (ha : askX m.S.s m.S.xs m.S.e m.W.s m.W.xs m.W.e k = 0) (h : downM m k = (r, q)) : q = 0 ∨ q = 10 := by
 rcases toX_code h with h1 | h1
 · exact h1.2
 · exact .inl (h1.1.symm.trans ha)
theorem up_code {m : Mv} {k : Int} {r : Dn} {q : Int} (ha : askX m.S.s m.S.xs m.S.e m.W.s m.W.xs m.W.e k = 0) (h : upM m k = (r, q)) : q = 0 ∨ q = 10 := by
 rcases toX_code h with h1 | h1
 · exact h1.2
 · exact .inl (h1.1.symm.trans ha)
set_option maxHeartbeats 25600000 in
set_option maxRecDepth 100000 in
/-- headcountref15.Between. -/
theorem RBetween_num (w : World) (m : Mv) (low high : Int) (hl : (Lit.int .i64 low).wf = true) (hh : (Lit.int .i64 high).wf = true) (hR : MRows w 0 w.heap.size m) (r : Bool) (code : Int) (hg : betweenM m low high = (r, code)) :
  Calls Try.prog 52 #[.agg #[.bool m.S.s, .slice m.S.A m.S.n m.S.c, .int .i64 m.S.e, .bool m.W.s, .slice m.W.A m.W.n m.W.c, .int .i64 m.W.e, .bool m.C.s, .slice m.C.A m.C.n m.C.c, .int .i64 m.C.e, .bool m.A.s, .slice m.A.A m.A.n m.A.c, .int .i64 m.A.e], .int .i64 low, .int .i64 high] w fun e w' => e = .returned (.tuple #[.bool r, .int .i64 code]) ∧ Below w.heap.size w w' := by
 obtain ⟨w1, hw, hM, j1, M1⟩ := alloc_m w m
 have HR := Lib.hid hg
 clear hg
 obtain ⟨l0, l1⟩ : -9223372036854775808 ≤ low ∧ low ≤ 9223372036854775807 := by simpa [Lit.wf, IntKind.min, IntKind.max, IntKind.signed, IntKind.bits] using hl
 obtain ⟨h0, h1⟩ : -9223372036854775808 ≤ high ∧ high ≤ 9223372036854775807 := by simpa [Lit.wf, IntKind.min, IntKind.max, IntKind.signed, IntKind.bits] using hh
 clear hl hh
 obtain ⟨b, hb⟩ : ∃ b, badS [m] = b := ⟨_, rfl⟩
 have HB := Lib.hid hb
 clear hb
 go_enter Try.func52, Try.ntmps52
 obtain ⟨⟨q1_0, q1_1, q1_2, q1_3, q1_4, q1_5, q1_6, q1_7, q1_8, q1_9, q1_10, q1_11⟩, q1f⟩ := MBox.cells hM
 go_wp2_with fail
 refine (RMayS_any w1 m (MRows.on hR j1) b HB.out).mono ?_
 rintro e' v2 ⟨rfl, j3⟩
 clear q1_0 q1_1 q1_2 q1_3 q1_4 q1_5 q1_6 q1_7 q1_8 q1_9 q1_10 q1_11 q1f
 try clear hw
 cases b
 rotate_left
 · skip
   have hcode : ((false, 8) : Bool × Int) = (r, code) := by
    rw [← HR.out]
    unfold betweenM
    rw [if_pos HB.out]
   injection hcode with e1 e2
   subst e1 e2
   clear HR
   go_wp2
   exact bodyPost_ret (v := .tuple #[.bool false, .int .i64 8]) (by simp [results, Try.results52, go_sem]) rfl ⟨rfl, (later j1 j3)⟩
 · skip
   by_cases hk : low < -2147483647 ∨ 2147483647 < high ∨ high < low
   · skip
     have hcode : ((false, 2) : Bool × Int) = (r, code) := by
      rw [← HR.out]
      unfold betweenM
      rw [if_neg (by rw [HB.out]; simp), if_pos hk]
     injection hcode with e1 e2
     subst e1 e2
     clear HR
     by_cases k1 : low < -2147483647
     · skip
       go_wp2
       exact bodyPost_ret (v := .tuple #[.bool false, .int .i64 2]) (by simp [results, Try.results52, go_sem]) rfl ⟨rfl, (later j1 j3)⟩
     · skip
       by_cases k2 : 2147483647 < high
       · skip
         go_wp2
         exact bodyPost_ret (v := .tuple #[.bool false, .int .i64 2]) (by simp [results, Try.results52, go_sem]) rfl ⟨rfl, (later j1 j3)⟩
       · skip
         have k3 : high < low := by omega
         go_wp2
         exact bodyPost_ret (v := .tuple #[.bool false, .int .i64 2]) (by simp [results, Try.results52, go_sem]) rfl ⟨rfl, (later j1 j3)⟩
   · skip
     have k1 : ¬ low < -2147483647 := fun h => hk (.inl h)
     have k2 : ¬ 2147483647 < high := fun h => hk (.inr (.inl h))
     have k3 : ¬ high < low := fun h => hk (.inr (.inr h))
     have hs : m.share := badS_one.1 HB.out
     have LS := Lib.hid (between_share hR hs (by omega : -2147483647 ≤ low) (by omega : high ≤ 2147483647) (by omega : low ≤ high))
     have HM_ := Lib.hid hs.1
     clear hk hs
     obtain ⟨r0, e1, e2⟩ := LS.out
     have e3 := HR.out
     rw [e1] at e3
     injection e3 with e3 e4
     subst e3 e4
     have E2 := Lib.hid e2
     clear e1 e2 HR LS
     obtain ⟨⟨q4_0, q4_1, q4_2, q4_3, q4_4, q4_5, q4_6, q4_7, q4_8, q4_9, q4_10, q4_11⟩, q4f⟩ := MBox.cells (box_later hM j3 M1)
     go_wp2_with fail
     refine (Lies15_any v2 m (MRows.on hR (later j1 j3)) HM_.out low high (by omega) (by omega) (by omega) (by omega) r0 E2.out).mono ?_
     rintro e' v5 ⟨rfl, j6⟩
     clear q4_0 q4_1 q4_2 q4_3 q4_4 q4_5 q4_6 q4_7 q4_8 q4_9 q4_10 q4_11 q4f
     try clear hw
     go_wp2
     exact bodyPost_ret (v := .tuple #[.bool r0, .int .i64 0]) (by simp [results, Try.results52, go_sem]) rfl ⟨rfl, (later j1 (later j3 j6))⟩
set_option maxHeartbeats 51200000 in
set_option maxRecDepth 100000 in
/-- headcountref15.Mean. -/
theorem RMean_num (w : World) (m : Mv) (k : Int) (hR : MRows w 0 w.heap.size m) (x y : Dn) (code : Int) (hg : meanM m k = ((x, y), code)) :
  Calls Try.prog 50 #[.agg #[.bool m.S.s, .slice m.S.A m.S.n m.S.c, .int .i64 m.S.e, .bool m.W.s, .slice m.W.A m.W.n m.W.c, .int .i64 m.W.e, .bool m.C.s, .slice m.C.A m.C.n m.C.c, .int .i64 m.C.e, .bool m.A.s, .slice m.A.A m.A.n m.A.c, .int .i64 m.A.e], .int .i64 k] w fun e w' => ∃ X Y : Dv, e = .returned (.tuple #[.agg #[.bool X.s, .slice X.A X.n X.c, .int .i64 X.e], .agg #[.bool Y.s, .slice Y.A Y.n Y.c, .int .i64 Y.e], .int .i64 code]) ∧ Below w.heap.size w w' ∧ Is x X ∧ Is y Y ∧ Ints w' w.heap.size w'.heap.size .u32 X.A X.n X.xs ∧ Ints w' w.heap.size w'.heap.size .u32 Y.A Y.n Y.xs := by
 generalize hw1 : ((w.alloc (.cells #[.bool m.S.s, .slice m.S.A m.S.n m.S.c, .int .i64 m.S.e, .bool m.W.s, .slice m.W.A m.W.n m.W.c, .int .i64 m.W.e, .bool m.C.s, .slice m.C.A m.C.n m.C.c, .int .i64 m.C.e, .bool m.A.s, .slice m.A.A m.A.n m.A.c, .int .i64 m.A.e] 27)).alloc (.cells #[.bool false, .slice none 0 0, .int .i64 0] 25)).alloc (.cells #[.bool false, .slice none 0 0, .int .i64 0] 25) = w1
 obtain ⟨hM, h4, h5, hBL, lo1, hi1⟩ := boxes3 w _ _ _ hw1
 replace hM : MBox w1 w.heap.size m := hM
 replace h4 : w1.heap[w.heap.size + 1]? = some (.cells #[.bool false, .slice none 0 0, .int .i64 0] 25 (0, 0)) := h4
 replace h5 : w1.heap[w.heap.size + 1 + 1]? = some (.cells #[.bool false, .slice none 0 0, .int .i64 0] 25 (0, 0)) := h5
 replace hBL : Below w.heap.size w w1 := hBL
 have HR := Lib.hid hg
 clear hg
 obtain ⟨b, hb⟩ : ∃ b, badS [m] = b := ⟨_, rfl⟩
 have HB := Lib.hid hb
 clear hb
 have M1 : w.heap.size < w1.heap.size := by omega
 have S4 : w.heap.size + 1 < w1.heap.size := by omega
 have S5 : w.heap.size + 1 + 1 < w1.heap.size := by omega
 go_enter Try.func50, Try.ntmps50
 obtain ⟨⟨q7_0, q7_1, q7_2, q7_3, q7_4, q7_5, q7_6, q7_7, q7_8, q7_9, q7_10, q7_11⟩, q7f⟩ := MBox.cells hM
 go_wp2_with fail
 refine (RMayS_any w1 m (MRows.on hR hBL) b HB.out).mono ?_
 rintro e' v8 ⟨rfl, j9⟩
 clear q7_0 q7_1 q7_2 q7_3 q7_4 q7_5 q7_6 q7_7 q7_8 q7_9 q7_10 q7_11 q7f
 try clear hw
 try clear hw1
 cases b
 rotate_left
 · skip
   have hcode : ((Dn.zero, Dn.zero), (8 : Int)) = ((x, y), code) := by
    rw [← HR.out]
    unfold meanM
    rw [if_pos HB.out]
   injection hcode with h1 h2
   injection h1 with h1 h3
   subst h1 h2 h3
   clear HR
   obtain ⟨⟨q10_0, q10_1, q10_2⟩, q10_3, q10_4, q10_5⟩ := boxD (box_later h4 j9 S4)
   obtain ⟨⟨q11_0, q11_1, q11_2⟩, q11_3, q11_4, q11_5⟩ := boxD (box_later h5 j9 S5)
   go_wp2
   obtain ⟨U1, hU1, hX1, hb1, hf1, _, _⟩ := zputR (box_later h4 j9 S4) (.bool false) (.slice none 0 0) (.int .i64 0)
   rw [hU1]
   obtain ⟨U2, hU2, hX2, hb2, hf2, _, _⟩ := zputR (show U1.heap[w.heap.size + 1 + 1]? = _ from (hf1 _ (by omega)).trans (box_later h5 j9 S5)) (.bool false) (.slice none 0 0) (.int .i64 0)
   rw [hU2]
   clear q10_0 q10_1 q10_2 q10_3 q10_4 q10_5 q11_0 q11_1 q11_2 q11_3 q11_4 q11_5
   have hX3 := (hf2 (w.heap.size + 1) (by omega)).trans hX1
   have hQ := hb2 _ _ (hb1 _ _ (later hBL j9) (by omega)) (by omega)
   clear hU1 hU2 hb1 hb2 hf1 hf2
   obtain ⟨⟨p0, p1, p2⟩, p3, p4, p5⟩ := boxD hX3
   obtain ⟨⟨q0, q1, q2⟩, q3, q4, q5⟩ := boxD hX2
   exact bodyPost_ret (v := .tuple #[.agg #[.bool false, .slice none 0 0, .int .i64 0], .agg #[.bool false, .slice none 0 0, .int .i64 0], .int .i64 8]) (by simp [results, Try.results50, go_sem, p0, p1, p2, q0, q1, q2]) rfl ⟨ZM.C, ZM.C, rfl, hQ, Is.zero, Is.zero, Ints.nil_ .., Ints.nil_ ..⟩
 · skip
   by_cases hk : k < 0 ∨ 64 < k
   · skip
     have hcode : ((Dn.zero, Dn.zero), (2 : Int)) = ((x, y), code) := by
      rw [← HR.out]
      unfold meanM
      rw [if_neg (by rw [HB.out]; simp), if_pos hk]
     injection hcode with h1 h2
     injection h1 with h1 h3
     subst h1 h2 h3
     clear HR
     rcases hk with hk | hk
     · skip
       obtain ⟨⟨q12_0, q12_1, q12_2⟩, q12_3, q12_4, q12_5⟩ := boxD (box_later h4 j9 S4)
       obtain ⟨⟨q13_0, q13_1, q13_2⟩, q13_3, q13_4, q13_5⟩ := boxD (box_later h5 j9 S5)
       go_wp2
       obtain ⟨U1, hU1, hX1, hb1, hf1, _, _⟩ := zputR (box_later h4 j9 S4) (.bool false) (.slice none 0 0) (.int .i64 0)
       rw [hU1]
       obtain ⟨U2, hU2, hX2, hb2, hf2, _, _⟩ := zputR (show U1.heap[w.heap.size + 1 + 1]? = _ from (hf1 _ (by omega)).trans (box_later h5 j9 S5)) (.bool false) (.slice none 0 0) (.int .i64 0)
       rw [hU2]
       clear q12_0 q12_1 q12_2 q12_3 q12_4 q12_5 q13_0 q13_1 q13_2 q13_3 q13_4 q13_5
       have hX3 := (hf2 (w.heap.size + 1) (by omega)).trans hX1
       have hQ := hb2 _ _ (hb1 _ _ (later hBL j9) (by omega)) (by omega)
       clear hU1 hU2 hb1 hb2 hf1 hf2
       obtain ⟨⟨p0, p1, p2⟩, p3, p4, p5⟩ := boxD hX3
       obtain ⟨⟨q0, q1, q2⟩, q3, q4, q5⟩ := boxD hX2
       exact bodyPost_ret (v := .tuple #[.agg #[.bool false, .slice none 0 0, .int .i64 0], .agg #[.bool false, .slice none 0 0, .int .i64 0], .int .i64 2]) (by simp [results, Try.results50, go_sem, p0, p1, p2, q0, q1, q2]) rfl ⟨ZM.C, ZM.C, rfl, hQ, Is.zero, Is.zero, Ints.nil_ .., Ints.nil_ ..⟩
     · skip
       have hk2 : ¬ k < 0 := by omega
       obtain ⟨⟨q14_0, q14_1, q14_2⟩, q14_3, q14_4, q14_5⟩ := boxD (box_later h4 j9 S4)
       obtain ⟨⟨q15_0, q15_1, q15_2⟩, q15_3, q15_4, q15_5⟩ := boxD (box_later h5 j9 S5)
       go_wp2
       obtain ⟨U1, hU1, hX1, hb1, hf1, _, _⟩ := zputR (box_later h4 j9 S4) (.bool false) (.slice none 0 0) (.int .i64 0)
       rw [hU1]
       obtain ⟨U2, hU2, hX2, hb2, hf2, _, _⟩ := zputR (show U1.heap[w.heap.size + 1 + 1]? = _ from (hf1 _ (by omega)).trans (box_later h5 j9 S5)) (.bool false) (.slice none 0 0) (.int .i64 0)
       rw [hU2]
       clear q14_0 q14_1 q14_2 q14_3 q14_4 q14_5 q15_0 q15_1 q15_2 q15_3 q15_4 q15_5
       have hX3 := (hf2 (w.heap.size + 1) (by omega)).trans hX1
       have hQ := hb2 _ _ (hb1 _ _ (later hBL j9) (by omega)) (by omega)
       clear hU1 hU2 hb1 hb2 hf1 hf2
       obtain ⟨⟨p0, p1, p2⟩, p3, p4, p5⟩ := boxD hX3
       obtain ⟨⟨q0, q1, q2⟩, q3, q4, q5⟩ := boxD hX2
       exact bodyPost_ret (v := .tuple #[.agg #[.bool false, .slice none 0 0, .int .i64 0], .agg #[.bool false, .slice none 0 0, .int .i64 0], .int .i64 2]) (by simp [results, Try.results50, go_sem, p0, p1, p2, q0, q1, q2]) rfl ⟨ZM.C, ZM.C, rfl, hQ, Is.zero, Is.zero, Ints.nil_ .., Ints.nil_ ..⟩
   · skip
     have hk1 : ¬ k < 0 := fun h => hk (.inl h)
     have hk2 : ¬ 64 < k := fun h => hk (.inr h)
     by_cases hn : m.W.n = 0
     · skip
       have hcode : ((Dn.zero, Dn.zero), (6 : Int)) = ((x, y), code) := by
        rw [← HR.out]
        unfold meanM
        rw [if_neg (by rw [HB.out]; simp), if_neg hk, if_pos hn]
       injection hcode with h1 h2
       injection h1 with h1 h3
       subst h1 h2 h3
       clear HR
       have HN := Lib.hid hn
       clear hn hk
       obtain ⟨⟨q16_0, q16_1, q16_2, q16_3, q16_4, q16_5, q16_6, q16_7, q16_8, q16_9, q16_10, q16_11⟩, q16f⟩ := MBox.cells (box_later hM j9 M1)
       go_wp2_with fail
       refine (rzero_any v8 m.W.s m.W.A m.W.n m.W.c m.W.e true (decide_eq_true HN.out)).mono ?_
       rintro e' v17 ⟨rfl, j18⟩
       clear q16_0 q16_1 q16_2 q16_3 q16_4 q16_5 q16_6 q16_7 q16_8 q16_9 q16_10 q16_11 q16f
       try clear hw
       obtain ⟨⟨q19_0, q19_1, q19_2⟩, q19_3, q19_4, q19_5⟩ := boxD (box_later h4 (later j9 j18) S4)
       obtain ⟨⟨q20_0, q20_1, q20_2⟩, q20_3, q20_4, q20_5⟩ := boxD (box_later h5 (later j9 j18) S5)
       go_wp2
       obtain ⟨U1, hU1, hX1, hb1, hf1, _, _⟩ := zputR (box_later h4 (later j9 j18) S4) (.bool false) (.slice none 0 0) (.int .i64 0)
       rw [hU1]
       obtain ⟨U2, hU2, hX2, hb2, hf2, _, _⟩ := zputR (show U1.heap[w.heap.size + 1 + 1]? = _ from (hf1 _ (by omega)).trans (box_later h5 (later j9 j18) S5)) (.bool false) (.slice none 0 0) (.int .i64 0)
       rw [hU2]
       clear q19_0 q19_1 q19_2 q19_3 q19_4 q19_5 q20_0 q20_1 q20_2 q20_3 q20_4 q20_5
       have hX3 := (hf2 (w.heap.size + 1) (by omega)).trans hX1
       have hQ := hb2 _ _ (hb1 _ _ (later hBL (later j9 j18)) (by omega)) (by omega)
       clear hU1 hU2 hb1 hb2 hf1 hf2
       obtain ⟨⟨p0, p1, p2⟩, p3, p4, p5⟩ := boxD hX3
       obtain ⟨⟨q0, q1, q2⟩, q3, q4, q5⟩ := boxD hX2
       exact bodyPost_ret (v := .tuple #[.agg #[.bool false, .slice none 0 0, .int .i64 0], .agg #[.bool false, .slice none 0 0, .int .i64 0], .int .i64 6]) (by simp [results, Try.results50, go_sem, p0, p1, p2, q0, q1, q2]) rfl ⟨ZM.C, ZM.C, rfl, hQ, Is.zero, Is.zero, Ints.nil_ .., Ints.nil_ ..⟩
     · skip
       obtain ⟨r1, q1, hr1⟩ : ∃ r q, downM m k = (r, q) := ⟨_, _, rfl⟩
       obtain ⟨r2, q2, hr2⟩ : ∃ r q, upM m k = (r, q) := ⟨_, _, rfl⟩
       have h0 := HR.out
       unfold meanM at h0
       rw [if_neg (by rw [HB.out]; simp), if_neg hk, if_neg hn, hr1, hr2] at h0
       have ha := share_ask hR (badS_one.1 HB.out) hn (k := k) (by omega) (by omega)
       have Q1 := Lib.hid (down_code ha hr1)
       have Q2 := Lib.hid (up_code ha hr2)
       have HD := Lib.hid h0
       have HN := Lib.hid hn
       have H1 := Lib.hid hr1
       have H2 := Lib.hid hr2
       clear h0 hn hk hr1 hr2 HR ha
       obtain ⟨⟨q21_0, q21_1, q21_2, q21_3, q21_4, q21_5, q21_6, q21_7, q21_8, q21_9, q21_10, q21_11⟩, q21f⟩ := MBox.cells (box_later hM j9 M1)
       go_wp2_with fail
       refine (rzero_any v8 m.W.s m.W.A m.W.n m.W.c m.W.e false (decide_eq_false HN.out)).mono ?_
       rintro e' v22 ⟨rfl, j23⟩
       clear q21_0 q21_1 q21_2 q21_3 q21_4 q21_5 q21_6 q21_7 q21_8 q21_9 q21_10 q21_11 q21f
       try clear hw
       obtain ⟨⟨q24_0, q24_1, q24_2, q24_3, q24_4, q24_5, q24_6, q24_7, q24_8, q24_9, q24_10, q24_11⟩, q24f⟩ := MBox.cells (box_later hM (later j9 j23) M1)
       go_wp2_with fail
       refine (rFloor_all v22 m.S.s m.W.s m.S.A m.W.A m.S.n m.S.c m.W.n m.W.c m.S.xs m.W.xs m.S.e m.W.e (MRows.on hR (later hBL (later j9 j23))).S (MRows.on hR (later hBL (later j9 j23))).W k r1 q1 H1.out).mono ?_
       rintro e' v25 ⟨G1, m1, o1, rfl, _, j26, I1⟩
       clear q24_0 q24_1 q24_2 q24_3 q24_4 q24_5 q24_6 q24_7 q24_8 q24_9 q24_10 q24_11 q24f
       try clear hw
       obtain ⟨v27, hw⟩ : ∃ U, v25.alloc (.cells #[.bool r1.neg, .slice G1 m1 o1, .int .i64 r1.e] 25) = U := ⟨_, rfl⟩
       have b7 : v27.heap[v25.heap.size]? = some (.cells #[.bool r1.neg, .slice G1 m1 o1, .int .i64 r1.e] 25 (0, 0)) := by rw [← hw]; exact heap_alloc_last _ _
       have j28 : Below v25.heap.size v25 v27 := by rw [← hw]; exact (Below.refl _ _).alloc (Nat.le_refl _) _
       have s29 : v25.heap.size < v27.heap.size := by rw [← hw]; simp
       obtain ⟨⟨q30_0, q30_1, q30_2, q30_3, q30_4, q30_5, q30_6, q30_7, q30_8, q30_9, q30_10, q30_11⟩, q30f⟩ := MBox.cells (box_later hM (later j9 (later j23 (later j26 j28))) M1)
       go_wp2_with fail
       refine (rCeil_all v27 m.S.s m.W.s m.S.A m.W.A m.S.n m.S.c m.W.n m.W.c m.S.xs m.W.xs m.S.e m.W.e (MRows.on hR (later hBL (later j9 (later j23 (later j26 j28))))).S (MRows.on hR (later hBL (later j9 (later j23 (later j26 j28))))).W k r2 q2 H2.out).mono ?_
       rintro e' v31 ⟨G2, m2, o2, rfl, _, j32, I2⟩
       clear q30_0 q30_1 q30_2 q30_3 q30_4 q30_5 q30_6 q30_7 q30_8 q30_9 q30_10 q30_11 q30f
       try clear hw
       obtain ⟨v33, hw⟩ : ∃ U, v31.alloc (.cells #[.bool r2.neg, .slice G2 m2 o2, .int .i64 r2.e] 25) = U := ⟨_, rfl⟩
       have b9 : v33.heap[v31.heap.size]? = some (.cells #[.bool r2.neg, .slice G2 m2 o2, .int .i64 r2.e] 25 (0, 0)) := by rw [← hw]; exact heap_alloc_last _ _
       have j34 : Below v31.heap.size v31 v33 := by rw [← hw]; exact (Below.refl _ _).alloc (Nat.le_refl _) _
       have s35 : v31.heap.size < v33.heap.size := by rw [← hw]; simp
       rcases Q1.out with hq1 | hq1
       · skip
         rcases Q2.out with hq2 | hq2
         · skip
           subst hq1 hq2
           clear Q1 Q2
           have hmx : max (0 : Int) 0 = 0 := by decide
           have hcode := HD.out
           unfold bothD at hcode
           rw [if_pos rfl, if_pos rfl] at hcode
           injection hcode with h1 h2
           injection h1 with h1 h3
           subst h1 h2 h3
           clear HD
           go_wp2_with fail
           try clear hw
           have hS7 := (box_later b7 (later j32 j34) s29)
           have hS9 := b9
           have hS0 : v33.drew.heap[v25.heap.size]? = some (.cells #[.bool r1.neg, .slice G1 m1 o1, .int .i64 r1.e] 25 (0, 0)) ∧ v33.drew.heap[v31.heap.size]? = some (.cells #[.bool r2.neg, .slice G2 m2 o2, .int .i64 r2.e] 25 (0, 0)) := ⟨hS7, hS9⟩
           clear hS7 hS9
           have u7 : w1.heap.size ≤ v25.heap.size := by have := Below.size (later j9 (later j23 j26)); omega
           have u9 : w1.heap.size ≤ v31.heap.size := by have := Below.size (later j9 (later j23 (later j26 (later j28 j32)))); omega
           refine region_E (fun W' : World => W'.heap[v25.heap.size]? = some (.cells #[.bool r1.neg, .slice G1 m1 o1, .int .i64 r1.e] 25 (0, 0)) ∧ W'.heap[v31.heap.size]? = some (.cells #[.bool r2.neg, .slice G2 m2 o2, .int .i64 r2.e] 25 (0, 0))) [] (m := 5) (L := #[zF,zF,zF,zF,zF]) (by kernel_rfl) (by rfl) (by rfl) ?_
           have j37 : Below v33.heap.size v33 v33.drew := (Below.refl _ _).drew
           generalize v33.drew = v36 at *
           have hX4 := (box_later h4 (later j9 (later j23 (later j26 (later j28 (later j32 (later j34 j37)))))) S4)
           have hX5 := (box_later h5 (later j9 (later j23 (later j26 (later j28 (later j32 (later j34 j37)))))) S5)
           have b_ := (later hBL (later j9 (later j23 (later j26 (later j28 (later j32 (later j34 j37)))))))
           have II1 := Ints.below I1 (later j28 (later j32 (later j34 j37))) (Nat.le_refl _)
           have II2 := Ints.below I2 (later j34 j37) (Nat.le_refl _)
           have z1 := Below.size (later j9 j23)
           have z2 := Below.size (later j28 (later j32 (later j34 j37)))
           have z3 := Below.size (later j9 (later j23 (later j26 j28)))
           have z4 := Below.size (later j34 j37)
           refine readE (i := 0) (L := #[zT,zF,zF,zF,zF]) (v := .agg #[.bool r1.neg, .slice G1 m1 o1, .int .i64 r1.e]) rfl (by rfl) (by kernel_rfl) (by kernel_rfl) (by kernel_rfl) (fun _ _ _ h => h) (by assumption) (by rfl) ?y0_ ?q0_
           case y0_ =>
            intro w' h1
            obtain ⟨⟨p0, p1, p2⟩, p3, p4, p5⟩ := boxD h1.1
            go_simp
           try simp only [Act.put, zp]
           refine readE (i := 1) (L := #[zT,zT,zF,zF,zF]) (v := .agg #[.bool r2.neg, .slice G2 m2 o2, .int .i64 r2.e]) rfl (by rfl) (by kernel_rfl) (by kernel_rfl) (by kernel_rfl) (fun _ _ _ h => h) (by assumption) (by rfl) ?y1_ ?q1_
           case y1_ =>
            intro w' h1
            obtain ⟨⟨p0, p1, p2⟩, p3, p4, p5⟩ := boxD h1.2
            go_simp
           try simp only [Act.put, zp]
           refine stepK (i := 2) (L := #[zT,zT,zT,zF,zF]) rfl (by rfl) (by kernel_rfl) (by rfl) (fun K hK => ?_)
           obtain ⟨⟨p0, p1, p2⟩, p3, p4, p5⟩ := boxD hX4
           obtain ⟨U1, hU_, n_, hb_, hf_, y1U1, y2U1⟩ := zputR hX4 (.bool r1.neg) (.slice G1 m1 o1) (.int .i64 r1.e)
           go_simp
           try rw [hU_]
           clear p0 p1 p2 p3 p4 p5 hU_
           replace hS0 : U1.heap[v25.heap.size]? = some (.cells #[.bool r1.neg, .slice G1 m1 o1, .int .i64 r1.e] 25 (0, 0)) ∧ U1.heap[v31.heap.size]? = some (.cells #[.bool r2.neg, .slice G2 m2 o2, .int .i64 r2.e] 25 (0, 0)) := ⟨(hf_ _ (by omega)).trans hS0.1, (hf_ _ (by omega)).trans hS0.2⟩
           replace b_ := hb_ _ _ b_ (by omega)
           replace II1 := intsR II1 (fun b h1 h2 => hf_ b (by omega))
           replace II2 := intsR II2 (fun b h1 h2 => hf_ b (by omega))
           replace hX5 := (hf_ _ (by omega)).trans hX5
           have hY4 := n_
           clear n_ hb_ hf_
           refine hK _ _ ⟨fun _ _ => hS0, ?_⟩
           clear hK K
           try simp only [Act.put, zp]
           refine stepK (i := 3) (L := #[zT,zT,zT,zT,zF]) rfl (by rfl) (by kernel_rfl) (by rfl) (fun K hK => ?_)
           obtain ⟨⟨p0, p1, p2⟩, p3, p4, p5⟩ := boxD hX5
           obtain ⟨U2, hU_, n_, hb_, hf_, y1U2, y2U2⟩ := zputR hX5 (.bool r2.neg) (.slice G2 m2 o2) (.int .i64 r2.e)
           go_simp
           try rw [hU_]
           clear p0 p1 p2 p3 p4 p5 hU_
           replace hS0 : U2.heap[v25.heap.size]? = some (.cells #[.bool r1.neg, .slice G1 m1 o1, .int .i64 r1.e] 25 (0, 0)) ∧ U2.heap[v31.heap.size]? = some (.cells #[.bool r2.neg, .slice G2 m2 o2, .int .i64 r2.e] 25 (0, 0)) := ⟨(hf_ _ (by omega)).trans hS0.1, (hf_ _ (by omega)).trans hS0.2⟩
           replace b_ := hb_ _ _ b_ (by omega)
           replace II1 := intsR II1 (fun b h1 h2 => hf_ b (by omega))
           replace II2 := intsR II2 (fun b h1 h2 => hf_ b (by omega))
           replace hY4 := (hf_ _ (by omega)).trans hY4
           have hY5 := n_
           clear n_ hb_ hf_
           refine hK _ _ ⟨fun _ _ => hS0, ?_⟩
           clear hK K
           try simp only [Act.put, zp]
           refine zE 4 #[zT,zT,zT,zT,zT] ?_ rfl ?hy85 ?rest85
           case hy85 => intro w; go_simp; (try with_reducible rfl)
           try simp only [Act.put, zp]
           refine doneE (by kernel_rfl) ?_ _
           obtain ⟨⟨p0, p1, p2⟩, p3, p4, p5⟩ := boxD hY4
           obtain ⟨⟨q0, q1, q2⟩, q3, q4, q5⟩ := boxD hY5
           go_wp2
           exact bodyPost_ret (v := .tuple #[.agg #[.bool r1.neg, .slice G1 m1 o1, .int .i64 r1.e], .agg #[.bool r2.neg, .slice G2 m2 o2, .int .i64 r2.e], .int .i64 0]) (by simp [results, Try.results50, go_sem, p0, p1, p2, q0, q1, q2]) rfl ⟨⟨r1.neg, G1, m1, o1, r1.e, canon 4294967296 r1.m⟩, ⟨r2.neg, G2, m2, o2, r2.e, canon 4294967296 r2.m⟩, rfl, b_, ⟨rfl, rfl, rfl⟩, ⟨rfl, rfl, rfl⟩, II1.more (by omega) (by omega), II2.more (by omega) (by omega)⟩
         · skip
           subst hq1 hq2
           clear Q1 Q2
           have hmx : max (0 : Int) 10 = 10 := by decide
           have hcode := HD.out
           unfold bothD at hcode
           rw [if_pos rfl, if_neg (show ¬ (10 : Int) = 0 by decide)] at hcode
           injection hcode with h1 h2
           injection h1 with h1 h3
           subst h1 h2 h3
           clear HD
           obtain ⟨⟨q38_0, q38_1, q38_2⟩, q38_3, q38_4, q38_5⟩ := boxD (box_later h4 (later j9 (later j23 (later j26 (later j28 (later j32 j34))))) S4)
           obtain ⟨⟨q39_0, q39_1, q39_2⟩, q39_3, q39_4, q39_5⟩ := boxD (box_later h5 (later j9 (later j23 (later j26 (later j28 (later j32 j34))))) S5)
           go_wp2
           try clear hw
           obtain ⟨U1, hU1, hX1, hb1, hf1, _, _⟩ := zputR (box_later h4 (later j9 (later j23 (later j26 (later j28 (later j32 j34))))) S4) (.bool false) (.slice none 0 0) (.int .i64 0)
           rw [hU1]
           obtain ⟨U2, hU2, hX2, hb2, hf2, _, _⟩ := zputR (show U1.heap[w.heap.size + 1 + 1]? = _ from (hf1 _ (by omega)).trans (box_later h5 (later j9 (later j23 (later j26 (later j28 (later j32 j34))))) S5)) (.bool false) (.slice none 0 0) (.int .i64 0)
           rw [hU2]
           clear q38_0 q38_1 q38_2 q38_3 q38_4 q38_5 q39_0 q39_1 q39_2 q39_3 q39_4 q39_5
           have hX3 := (hf2 (w.heap.size + 1) (by omega)).trans hX1
           have hQ := hb2 _ _ (hb1 _ _ (later hBL (later j9 (later j23 (later j26 (later j28 (later j32 j34)))))) (by omega)) (by omega)
           clear hU1 hU2 hb1 hb2 hf1 hf2
           obtain ⟨⟨p0, p1, p2⟩, p3, p4, p5⟩ := boxD hX3
           obtain ⟨⟨q0, q1, q2⟩, q3, q4, q5⟩ := boxD hX2
           exact bodyPost_ret (v := .tuple #[.agg #[.bool false, .slice none 0 0, .int .i64 0], .agg #[.bool false, .slice none 0 0, .int .i64 0], .int .i64 10]) (by simp [results, Try.results50, go_sem, p0, p1, p2, q0, q1, q2]) rfl ⟨ZM.C, ZM.C, rfl, hQ, Is.zero, Is.zero, Ints.nil_ .., Ints.nil_ ..⟩
       · skip
         rcases Q2.out with hq2 | hq2
         · skip
           subst hq1 hq2
           clear Q1 Q2
           have hmx : max (10 : Int) 0 = 10 := by decide
           have hcode := HD.out
           unfold bothD at hcode
           rw [if_neg (show ¬ (10 : Int) = 0 by decide)] at hcode
           injection hcode with h1 h2
           injection h1 with h1 h3
           subst h1 h2 h3
           clear HD
           obtain ⟨⟨q40_0, q40_1, q40_2⟩, q40_3, q40_4, q40_5⟩ := boxD (box_later h4 (later j9 (later j23 (later j26 (later j28 (later j32 j34))))) S4)
           obtain ⟨⟨q41_0, q41_1, q41_2⟩, q41_3, q41_4, q41_5⟩ := boxD (box_later h5 (later j9 (later j23 (later j26 (later j28 (later j32 j34))))) S5)
           go_wp2
           try clear hw
           obtain ⟨U1, hU1, hX1, hb1, hf1, _, _⟩ := zputR (box_later h4 (later j9 (later j23 (later j26 (later j28 (later j32 j34))))) S4) (.bool false) (.slice none 0 0) (.int .i64 0)
           rw [hU1]
           obtain ⟨U2, hU2, hX2, hb2, hf2, _, _⟩ := zputR (show U1.heap[w.heap.size + 1 + 1]? = _ from (hf1 _ (by omega)).trans (box_later h5 (later j9 (later j23 (later j26 (later j28 (later j32 j34))))) S5)) (.bool false) (.slice none 0 0) (.int .i64 0)
           rw [hU2]
           clear q40_0 q40_1 q40_2 q40_3 q40_4 q40_5 q41_0 q41_1 q41_2 q41_3 q41_4 q41_5
           have hX3 := (hf2 (w.heap.size + 1) (by omega)).trans hX1
           have hQ := hb2 _ _ (hb1 _ _ (later hBL (later j9 (later j23 (later j26 (later j28 (later j32 j34)))))) (by omega)) (by omega)
           clear hU1 hU2 hb1 hb2 hf1 hf2
           obtain ⟨⟨p0, p1, p2⟩, p3, p4, p5⟩ := boxD hX3
           obtain ⟨⟨q0, q1, q2⟩, q3, q4, q5⟩ := boxD hX2
           exact bodyPost_ret (v := .tuple #[.agg #[.bool false, .slice none 0 0, .int .i64 0], .agg #[.bool false, .slice none 0 0, .int .i64 0], .int .i64 10]) (by simp [results, Try.results50, go_sem, p0, p1, p2, q0, q1, q2]) rfl ⟨ZM.C, ZM.C, rfl, hQ, Is.zero, Is.zero, Ints.nil_ .., Ints.nil_ ..⟩
         · skip
           subst hq1 hq2
           clear Q1 Q2
           have hmx : max (10 : Int) 10 = 10 := by decide
           have hcode := HD.out
           unfold bothD at hcode
           rw [if_neg (show ¬ (10 : Int) = 0 by decide)] at hcode
           injection hcode with h1 h2
           injection h1 with h1 h3
           subst h1 h2 h3
           clear HD
           obtain ⟨⟨q42_0, q42_1, q42_2⟩, q42_3, q42_4, q42_5⟩ := boxD (box_later h4 (later j9 (later j23 (later j26 (later j28 (later j32 j34))))) S4)
           obtain ⟨⟨q43_0, q43_1, q43_2⟩, q43_3, q43_4, q43_5⟩ := boxD (box_later h5 (later j9 (later j23 (later j26 (later j28 (later j32 j34))))) S5)
           go_wp2
           try clear hw
           obtain ⟨U1, hU1, hX1, hb1, hf1, _, _⟩ := zputR (box_later h4 (later j9 (later j23 (later j26 (later j28 (later j32 j34))))) S4) (.bool false) (.slice none 0 0) (.int .i64 0)
           rw [hU1]
           obtain ⟨U2, hU2, hX2, hb2, hf2, _, _⟩ := zputR (show U1.heap[w.heap.size + 1 + 1]? = _ from (hf1 _ (by omega)).trans (box_later h5 (later j9 (later j23 (later j26 (later j28 (later j32 j34))))) S5)) (.bool false) (.slice none 0 0) (.int .i64 0)
           rw [hU2]
           clear q42_0 q42_1 q42_2 q42_3 q42_4 q42_5 q43_0 q43_1 q43_2 q43_3 q43_4 q43_5
           have hX3 := (hf2 (w.heap.size + 1) (by omega)).trans hX1
           have hQ := hb2 _ _ (hb1 _ _ (later hBL (later j9 (later j23 (later j26 (later j28 (later j32 j34)))))) (by omega)) (by omega)
           clear hU1 hU2 hb1 hb2 hf1 hf2
           obtain ⟨⟨p0, p1, p2⟩, p3, p4, p5⟩ := boxD hX3
           obtain ⟨⟨q0, q1, q2⟩, q3, q4, q5⟩ := boxD hX2
           exact bodyPost_ret (v := .tuple #[.agg #[.bool false, .slice none 0 0, .int .i64 0], .agg #[.bool false, .slice none 0 0, .int .i64 0], .int .i64 10]) (by simp [results, Try.results50, go_sem, p0, p1, p2, q0, q1, q2]) rfl ⟨ZM.C, ZM.C, rfl, hQ, Is.zero, Is.zero, Ints.nil_ .., Ints.nil_ ..⟩
end Ma
end Go.Proofs.Ytbbnbgllgomolaa
namespace Go.Proofs.Ytbbnbgllgomolaa
open Go.RowKit
namespace Ma
open Dp Dy
theorem twin_down {a u : Mv} (h : ∀ x, x < 4 → TwinV (a.get x) (u.get x)) (k : Int) : downM u k = downM a k ∧ upM u k = upM a k := by
 obtain ⟨s1, _, e1, x1, _⟩ := h 0 (by decide)
 obtain ⟨s2, _, e2, x2, _⟩ := h 1 (by decide)
 have s1' : u.S.s = a.S.s := s1
 have x1' : u.S.xs = a.S.xs := x1
 have e1' : u.S.e = a.S.e := e1
 have s2' : u.W.s = a.W.s := s2
 have x2' : u.W.xs = a.W.xs := x2
 have e2' : u.W.e = a.W.e := e2
 unfold downM upM
 rw [s1', x1', e1', s2', x2', e2']
 exact ⟨rfl, rfl⟩
theorem twin_mean {a u : Mv} (h : ∀ x, x < 4 → TwinV (a.get x) (u.get x)) (k : Int) : meanM u k = meanM a k := by
 have w2 : u.W.n = a.W.n := (h 1 (by decide)).2.1
 unfold meanM
 rw [twin_bad h, w2, (twin_down h k).1, (twin_down h k).2]
theorem twin_between {a u : Mv} (h : ∀ x, x < 4 → TwinV (a.get x) (u.get x)) (low high : Int) : betweenM u low high = betweenM a low high := by
 have w2 : u.W.n = a.W.n := (h 1 (by decide)).2.1
 unfold betweenM
 rw [twin_bad h, w2, (twin_down h 0).1, (twin_down h 0).2]
theorem mean_mayX {m : Mv} {k : Int} {x y : Dn} {c : Int} (h : meanM m k = ((x, y), c)) : x.May ∧ y.May := by
 unfold meanM at h
 have z : ∀ {c' : Int}, (((Dn.zero, Dn.zero), c') : (Dn × Dn) × Int) = ((x, y), c) → x.May ∧ y.May := fun h => by
  injection h with h1 _
  injection h1 with h1 h2
  subst h1 h2
  exact ⟨zero_may, zero_may⟩
 split at h
 · exact z h
 · split at h
   · exact z h
   · split at h
     · exact z h
     · unfold bothD at h
       split at h
       · split at h
         · injection h with h1 _
           injection h1 with h1 h2
           subst h1 h2
           exact ⟨toX_may (x := (downM m k).1) (c := (downM m k).2) rfl, toX_may (x := (upM m k).1) (c := (upM m k).2) rfl⟩
         · exact z h
       · exact z h
set_option maxHeartbeats 102400000 in
set_option maxRecDepth 100000 in
theorem pmeans_walk (w : World) (m : Mv) (hR : MRows w 0 w.heap.size m) (k : Int) (_hk : (Lit.int .i64 k).wf = true) (low : Int) (hl : (Lit.int .i64 low).wf = true) (high : Int) (hh : (Lit.int .i64 high).wf = true) :
  Calls Try.prog 11 #[.agg #[.bool m.S.s, .slice m.S.A m.S.n m.S.c, .int .i64 m.S.e, .bool m.W.s, .slice m.W.A m.W.n m.W.c, .int .i64 m.W.e, .bool m.C.s, .slice m.C.A m.C.n m.C.c, .int .i64 m.C.e, .bool m.A.s, .slice m.A.A m.A.n m.A.c, .int .i64 m.A.e], .int .i64 k, .int .i64 low, .int .i64 high] w fun e w' => e = .returned (.bool true) ∧ Below w.heap.size w w' := by
 obtain ⟨w1, hw, bM, j1, S1⟩ := alloc_m w m
 obtain ⟨g, hg⟩ : ∃ g, greatM m = g := ⟨_, rfl⟩
 obtain ⟨x, y, ce, he⟩ : ∃ x y c, meanM m k = ((x, y), c) := ⟨_, _, _, rfl⟩
 obtain ⟨r, cf, hf⟩ : ∃ r c, betweenM m low high = (r, c) := ⟨_, _, rfl⟩
 have HG := Lib.hid hg
 have HE := Lib.hid he
 have HF := Lib.hid hf
 clear hg he hf
 go_enter Try.func11, Try.ntmps11
 obtain ⟨⟨q1_0, q1_1, q1_2, q1_3, q1_4, q1_5, q1_6, q1_7, q1_8, q1_9, q1_10, q1_11⟩, q1f⟩ := MBox.cells bM
 go_wp2_with fail
 refine (RGreat_any w1 m (MRows.on hR j1) g HG.out).mono ?_
 rintro e' v2 ⟨rfl, j3⟩
 clear q1_0 q1_1 q1_2 q1_3 q1_4 q1_5 q1_6 q1_7 q1_8 q1_9 q1_10 q1_11 q1f
 try clear hw
 cases g
 rotate_left
 · skip
   go_wp2
   go_ret
   exact ⟨rfl, (later j1 j3)⟩
 · skip
   have na : ∀ x, x < 4 → (m.get x).n ≤ 1000000 := fun x hx => by
    have h1 := (great_not HG.out x hx).1
    have h2 := (hR.get x).len
    omega
   have NA := Lib.hid na
   clear na
   obtain ⟨⟨q4_0, q4_1, q4_2, q4_3, q4_4, q4_5, q4_6, q4_7, q4_8, q4_9, q4_10, q4_11⟩, q4f⟩ := MBox.cells (box_later bM j3 S1)
   go_wp2_with fail
   refine (RTwinM_any v2 m (MRows.on hR (later j1 j3)) NA.out).mono ?_
   rintro e' v5 ⟨u, rfl, tu, j6, Ru⟩
   clear q4_0 q4_1 q4_2 q4_3 q4_4 q4_5 q4_6 q4_7 q4_8 q4_9 q4_10 q4_11 q4f
   try clear hw
   replace tu := Lib.hid tu
   have Ru0 := Ru
   replace Ru := Ru.more (Nat.zero_le _) (Nat.le_refl _)
   obtain ⟨v7, hw, bU, j8, s9⟩ := alloc_m v5 u
   obtain ⟨⟨q10_0, q10_1, q10_2, q10_3, q10_4, q10_5, q10_6, q10_7, q10_8, q10_9, q10_10, q10_11⟩, q10f⟩ := MBox.cells bU
   go_wp2_with fail
   refine (Mean_num v7 u k (MRows.on Ru j8) x y ce ((twin_mean tu.out k).trans HE.out)).mono ?_
   rintro e' v11 ⟨X, Y, rfl, j12, iX, iY, B1, lx1, lx2, RX, RY⟩
   clear q10_0 q10_1 q10_2 q10_3 q10_4 q10_5 q10_6 q10_7 q10_8 q10_9 q10_10 q10_11 q10f
   try clear hw
   replace iX := Lib.hid iX
   replace iY := Lib.hid iY
   have RX9 := RX.more (lo' := 0) (hi' := v11.heap.size) (Nat.zero_le _) lx2
   have RY9 := RY.more (lo' := 0) (hi' := v11.heap.size) (Nat.zero_le _) (Nat.le_refl _)
   obtain ⟨v13, hw⟩ : ∃ U, (v11.alloc (.cells #[.bool X.s, .slice X.A X.n X.c, .int .i64 X.e] 25)).alloc (.cells #[.bool Y.s, .slice Y.A Y.n Y.c, .int .i64 Y.e] 25) = U := ⟨_, rfl⟩
   obtain ⟨bX, bY, j14, s15_, s15__⟩ := boxes2 v11 _ _ hw
   replace j14 : Below v11.heap.size v11 v13 := j14
   replace bX : v13.heap[v11.heap.size]? = some (.cells #[.bool X.s, .slice X.A X.n X.c, .int .i64 X.e] 25 (0, 0)) := bX
   replace bY : v13.heap[v11.heap.size + 1]? = some (.cells #[.bool Y.s, .slice Y.A Y.n Y.c, .int .i64 Y.e] 25 (0, 0)) := bY
   have s15 : v11.heap.size < v13.heap.size := by omega
   have s15b : v11.heap.size + 1 < v13.heap.size := by omega
   obtain ⟨⟨q16_0, q16_1, q16_2, q16_3, q16_4, q16_5, q16_6, q16_7, q16_8, q16_9, q16_10, q16_11⟩, q16f⟩ := MBox.cells (box_later bM (later j3 (later j6 (later j8 (later j12 j14)))) S1)
   go_wp2_with fail
   refine (RMean_num v13 m k (MRows.on hR (later j1 (later j3 (later j6 (later j8 (later j12 j14)))))) x y ce HE.out).mono ?_
   rintro e' v17 ⟨P, Q, rfl, j18, iP, iQ, RP, RQ⟩
   clear q16_0 q16_1 q16_2 q16_3 q16_4 q16_5 q16_6 q16_7 q16_8 q16_9 q16_10 q16_11 q16f
   try clear hw
   replace iP := Lib.hid iP
   replace iQ := Lib.hid iQ
   have RP9 := RP.more (lo' := 0) (hi' := v17.heap.size) (Nat.zero_le _) (Nat.le_refl _)
   have RQ9 := RQ.more (lo' := 0) (hi' := v17.heap.size) (Nat.zero_le _) (Nat.le_refl _)
   obtain ⟨v19, hw⟩ : ∃ U, (v17.alloc (.cells #[.bool P.s, .slice P.A P.n P.c, .int .i64 P.e] 25)).alloc (.cells #[.bool Q.s, .slice Q.A Q.n Q.c, .int .i64 Q.e] 25) = U := ⟨_, rfl⟩
   obtain ⟨bP, bQ, j20, s21_, s21__⟩ := boxes2 v17 _ _ hw
   replace j20 : Below v17.heap.size v17 v19 := j20
   replace bP : v19.heap[v17.heap.size]? = some (.cells #[.bool P.s, .slice P.A P.n P.c, .int .i64 P.e] 25 (0, 0)) := bP
   replace bQ : v19.heap[v17.heap.size + 1]? = some (.cells #[.bool Q.s, .slice Q.A Q.n Q.c, .int .i64 Q.e] 25 (0, 0)) := bQ
   have s21 : v17.heap.size < v19.heap.size := by omega
   have s21b : v17.heap.size + 1 < v19.heap.size := by omega
   obtain ⟨⟨q22_0, q22_1, q22_2, q22_3, q22_4, q22_5, q22_6, q22_7, q22_8, q22_9, q22_10, q22_11⟩, q22f⟩ := MBox.cells (box_later bU (later j12 (later j14 (later j18 j20))) s9)
   go_wp2_with fail
   refine (Between_num v19 u low high hl hh (MRows.on Ru (later j8 (later j12 (later j14 (later j18 j20))))) r cf ((twin_between tu.out low high).trans HF.out)).mono ?_
   rintro e' v23 ⟨rfl, j24⟩
   clear q22_0 q22_1 q22_2 q22_3 q22_4 q22_5 q22_6 q22_7 q22_8 q22_9 q22_10 q22_11 q22f
   try clear hw
   obtain ⟨⟨q25_0, q25_1, q25_2, q25_3, q25_4, q25_5, q25_6, q25_7, q25_8, q25_9, q25_10, q25_11⟩, q25f⟩ := MBox.cells (box_later bM (later j3 (later j6 (later j8 (later j12 (later j14 (later j18 (later j20 j24))))))) S1)
   go_wp2_with fail
   refine (RBetween_num v23 m low high hl hh (MRows.on hR (later j1 (later j3 (later j6 (later j8 (later j12 (later j14 (later j18 (later j20 j24))))))))) r cf HF.out).mono ?_
   rintro e' v26 ⟨rfl, j27⟩
   clear q25_0 q25_1 q25_2 q25_3 q25_4 q25_5 q25_6 q25_7 q25_8 q25_9 q25_10 q25_11 q25f
   try clear hw
   obtain ⟨⟨q28_0, q28_1, q28_2⟩, q28_3, q28_4, q28_5⟩ := boxD (box_later bX (later j18 (later j20 (later j24 j27))) s15)
   obtain ⟨⟨q29_0, q29_1, q29_2⟩, q29_3, q29_4, q29_5⟩ := boxD (box_later bP (later j24 j27) s21)
   go_wp2_with fail
   refine (Pa.rSame_any v26 _ _ _ _ _ _ _ _ _ _ _ _ (ints_on RX9 (later j14 (later j18 (later j20 (later j24 j27))))) (ints_on RP9 (later j20 (later j24 j27))) true (iX.out.same iP.out)).mono ?_
   rintro e' v30 ⟨rfl, j31⟩
   clear q28_0 q28_1 q28_2 q28_3 q28_4 q28_5 q29_0 q29_1 q29_2 q29_3 q29_4 q29_5
   try clear hw
   obtain ⟨⟨q32_0, q32_1, q32_2⟩, q32_3, q32_4, q32_5⟩ := boxD (box_later bY (later j18 (later j20 (later j24 (later j27 j31)))) s15b)
   obtain ⟨⟨q33_0, q33_1, q33_2⟩, q33_3, q33_4, q33_5⟩ := boxD (box_later bQ (later j24 (later j27 j31)) s21b)
   go_wp2_with fail
   refine (Pa.rSame_any v30 _ _ _ _ _ _ _ _ _ _ _ _ (ints_on RY9 (later j14 (later j18 (later j20 (later j24 (later j27 j31)))))) (ints_on RQ9 (later j20 (later j24 (later j27 j31)))) true (iY.out.same iQ.out)).mono ?_
   rintro e' v34 ⟨rfl, j35⟩
   clear q32_0 q32_1 q32_2 q32_3 q32_4 q32_5 q33_0 q33_1 q33_2 q33_3 q33_4 q33_5
   try clear hw
   have ee : (ce == ce) = true := beq_self_eq_true _
   have ef : (cf == cf) = true := beq_self_eq_true _
   have er : (r == r) = true := beq_self_eq_true _
   have nX : X.n ≤ 1000000 := by
    have h1 := RX
    rw [iX.out.2.2] at h1
    have h2 := ints_may h1 (mean_mayX HE.out).1
    omega
   have nY : Y.n ≤ 1000000 := by
    have h1 := RY
    rw [iY.out.2.2] at h1
    have h2 := ints_may h1 (mean_mayX HE.out).2
    omega
   have wX : WrR v34 v7.heap.size B1 X.A X.n := WrR.of (Ints.below RX (later j14 (later j18 (later j20 (later j24 (later j27 (later j31 j35)))))) lx2)
   have wY : WrR v34 B1 v11.heap.size Y.A Y.n := WrR.of (Ints.below RY (later j14 (later j18 (later j20 (later j24 (later j27 (later j31 j35)))))) (Nat.le_refl _))
   have sz1 := Below.size (later j1 (later j3 (later j6 j8)))
   have sz2 := Below.size (later j14 (later j18 (later j20 (later j24 (later j27 (later j31 j35))))))
   have sz3 := Below.size j14
   have sz4 := Below.size (later j18 (later j20 (later j24 (later j27 (later j31 j35)))))
   have sz5 := Below.size (later j20 (later j24 (later j27 (later j31 j35))))
   have sz6 := Below.size j18
   have sz7 := Below.size j8
   have sz8 := Below.size (later j3 (later j6 j8))
   have fbM := (box_later bM (later j3 (later j6 (later j8 (later j12 (later j14 (later j18 (later j20 (later j24 (later j27 (later j31 j35)))))))))) S1)
   have fbU := (box_later bU (later j12 (later j14 (later j18 (later j20 (later j24 (later j27 (later j31 j35))))))) s9)
   have fbY := (box_later bY (later j18 (later j20 (later j24 (later j27 (later j31 j35))))) s15b)
   have fbQ := (box_later bQ (later j24 (later j27 (later j31 j35))) s21b)
   have fhR := hR.below (later j1 (later j3 (later j6 (later j8 (later j12 (later j14 (later j18 (later j20 (later j24 (later j27 (later j31 j35))))))))))) (Nat.le_refl _)
   have fRu := Ru0.below (later j8 (later j12 (later j14 (later j18 (later j20 (later j24 (later j27 (later j31 j35)))))))) (Nat.le_refl _)
   have fRY := Ints.below RY (later j14 (later j18 (later j20 (later j24 (later j27 (later j31 j35)))))) (Nat.le_refl _)
   have fRQ := Ints.below RQ (later j20 (later j24 (later j27 (later j31 j35)))) (Nat.le_refl _)
   have fin := (later j1 (later j3 (later j6 (later j8 (later j12 (later j14 (later j18 (later j20 (later j24 (later j27 (later j31 j35)))))))))))
   have gMs : w.heap.size < v7.heap.size := by omega
   have gUs : v5.heap.size < v7.heap.size := s9
   have gYs : v11.heap.size + 1 < v34.heap.size := (Nat.lt_of_lt_of_le s15b (Below.size (later j18 (later j20 (later j24 (later j27 (later j31 j35)))))))
   have gQs : v17.heap.size + 1 < v34.heap.size := (Nat.lt_of_lt_of_le s21b (Below.size (later j24 (later j27 (later j31 j35)))))
   obtain ⟨⟨q36_0, q36_1, q36_2⟩, q36_3, q36_4, q36_5⟩ := boxD (box_later bX (later j18 (later j20 (later j24 (later j27 (later j31 j35))))) s15)
   go_wp2_with fail
   refine (spoil15_any v34 X.s X.A X.n X.c X.e v7.heap.size B1 wX nX (by omega) (by omega)).mono ?_
   rintro e' wy1 ⟨rfl, hB, hF, hWr⟩
   clear q36_0 q36_1 q36_2 q36_3 q36_4 q36_5
   have sy1 := hB.size
   have bM1 := (hB.block _ gMs).trans fbM
   have bU1 := (hB.block _ gUs).trans fbU
   have bY1 := (hF _ (by omega) gYs).trans fbY
   have bQ1 := (hF _ (by omega) gQs).trans fbQ
   have hR1 := fhR.below hB (by omega)
   have Ru1 := fRu.below hB (by omega)
   have RY1 := intsR fRY (fun b h1 h2 => hF b h1 (by omega))
   have RQ1 := intsR fRQ (fun b h1 h2 => hF b (by omega) (by omega))
   have wY1 := wY.keep hWr
   have fin1 := fin.trans (hB.mono (by omega))
   clear fbM fbU fbY fbQ fhR fRu fRY fRQ wX wY hB hF hWr
   have hRz := MRows.more hR1 (lo' := 0) (hi' := wy1.heap.size) (Nat.zero_le _) (by omega)
   have Ruz := MRows.more Ru1 (lo' := 0) (hi' := wy1.heap.size) (Nat.zero_le _) (by omega)
   have RYz := Ints.more RY1 (lo' := 0) (hi' := wy1.heap.size) (Nat.zero_le _) (by omega)
   have RQz := Ints.more RQ1 (lo' := 0) (hi' := wy1.heap.size) (Nat.zero_le _) (by omega)
   have gM1 : w.heap.size < wy1.heap.size := by omega
   have gU1 : v5.heap.size < wy1.heap.size := by omega
   have gY1 : v11.heap.size + 1 < wy1.heap.size := by omega
   have gQ1 : v17.heap.size + 1 < wy1.heap.size := by omega
   obtain ⟨⟨q37_0, q37_1, q37_2⟩, q37_3, q37_4, q37_5⟩ := boxD bY1
   obtain ⟨⟨q38_0, q38_1, q38_2⟩, q38_3, q38_4, q38_5⟩ := boxD bQ1
   go_wp2_with fail
   refine (Pa.rSame_any wy1 _ _ _ _ _ _ _ _ _ _ _ _ RYz RQz true (iY.out.same iQ.out)).mono ?_
   rintro e' v39 ⟨rfl, j40⟩
   clear q37_0 q37_1 q37_2 q37_3 q37_4 q37_5 q38_0 q38_1 q38_2 q38_3 q38_4 q38_5
   try clear hw
   have sz9 := Below.size j40
   have wY2 := wY1.below j40 (by omega)
   obtain ⟨⟨q41_0, q41_1, q41_2⟩, q41_3, q41_4, q41_5⟩ := boxD (box_later bY1 j40 gY1)
   go_wp2_with fail
   refine (spoil15_any v39 Y.s Y.A Y.n Y.c Y.e B1 v11.heap.size wY2 nY (by omega) (by omega)).mono ?_
   rintro e' wy2 ⟨rfl, hB, hF, hWr⟩
   clear q41_0 q41_1 q41_2 q41_3 q41_4 q41_5
   have sy2 := hB.size
   have bM2 := (hB.block _ (by omega)).trans (box_later bM1 j40 gM1)
   have bU2 := (hB.block _ (by omega)).trans (box_later bU1 j40 gU1)
   have hR2 := MRows.more (hR1.below (B := wy1.heap.size) j40 (by omega) |>.below hB (by omega)) (lo' := 0) (hi' := wy2.heap.size) (Nat.zero_le _) (by omega)
   have Ru2 := MRows.more (Ru1.below (B := wy1.heap.size) j40 (by omega) |>.below hB (by omega)) (lo' := 0) (hi' := wy2.heap.size) (Nat.zero_le _) (by omega)
   have fin2 := (fin1.trans ((j40).mono (by omega))).trans (hB.mono (by omega))
   obtain ⟨⟨k0, k1, k2, k3, k4, k5, k6, k7, k8, k9, k10, k11⟩, kf⟩ := MBox.cells bM2
   obtain ⟨⟨y0, y1, y2, y3, y4, y5, y6, y7, y8, y9, y10, y11⟩, yf⟩ := MBox.cells bU2
   go_wp2_with fail
   refine (RSame_any wy2 u m Ru2 hR2 true (twin_same tu.out)).mono ?_
   rintro e' wy3 ⟨rfl, hB3⟩
   go_wp2
   go_ret
   exact ⟨rfl, fin2.trans (hB3.mono (by omega))⟩
end Ma
end Go.Proofs.Ytbbnbgllgomolaa