/- ratio.to, Floor, Ceil: walks (printed by a program of mine). -/
/- ratio.Near: a walk (printed by a program of mine). -/
/- The examples of the chapter: a walk. -/
/- Blocks that stay. -/
/- ratio.Near for any arguments, headcountlaw03.is and alive: walks (printed by a program of mine). -/
/- What is reckoned with dyads, whatever they are: contracts. -/
/- The laws of quotients, for any arguments: no program in sight. -/
/- Quotients of whole numbers: no program in sight. -/
import Derived.Test.YtmbppgjhdcmckaaGreatDoorBi06
import Derived.Test.YtmbppgjhdcmckaaGreatDoorBi07
import Derived.Test.YtmbppgjhdcmckaaGreatDoorBi02
import Derived.Deep.Cut
namespace Go.Proofs.YtmbppgjhdcmckaaGreatDoor
open Go.RowKit
namespace Dy
open Dp
theorem ask_ok {a b : Dn} (ha : a.May) (hb : b.May) (hn : b.neg = false) (h0 : b.m ≠ 0) {k : Nat} (hk : k ≤ 64) : askX a.neg (canon 4294967296 a.m) a.e b.neg (canon 4294967296 b.m) b.e k = 0 := by
 unfold askX
 rw [if_pos ⟨dn_may ha, dn_may hb⟩, if_neg]
 rintro (h | h | h | h)
 · rw [hn] at h
   cases h
 · exact h0 (canon_nil (by decide) h)
 · omega
 · omega
theorem ask_two (s1 : Bool) (xs1 : List Int) (e1 : Int) (s2 : Bool) (xs2 : List Int) (e2 k : Int) : askX s1 xs1 e1 s2 xs2 e2 k = 0 ∨ askX s1 xs1 e1 s2 xs2 e2 k = 2 ∨ askX s1 xs1 e1 s2 xs2 e2 k = 8 := by
 unfold askX
 split
 · split
   · exact .inr (.inl rfl)
   · exact .inl rfl
 · exact .inr (.inr rfl)
theorem ask_zero {s1 : Bool} {xs1 : List Int} {e1 : Int} {s2 : Bool} {xs2 : List Int} {e2 k : Int} (h : askX s1 xs1 e1 s2 xs2 e2 k = 0) : MayD s1 xs1 e1 ∧ MayD s2 xs2 e2 ∧ s2 = false ∧ xs2 ≠ [] ∧ 0 ≤ k ∧ k ≤ 64 := by
 unfold askX at h
 split at h
 · rename_i hm
   split at h
   · omega
   · rename_i hn
     refine ⟨hm.1, hm.2, ?_, fun e => hn (.inr (.inl e)), ?_, ?_⟩
     · cases s2
       · rfl
       · exact absurd (.inl rfl) hn
     · by_cases hk : 0 ≤ k
       · exact hk
       · exact absurd (.inr (.inr (.inl (by omega)))) hn
     · by_cases hk : k ≤ 64
       · exact hk
       · exact absurd (.inr (.inr (.inr (by omega)))) hn
 · omega
theorem quo_room {a b : Dn} (ha : a.May) (hb : b.May) {k : Nat} (hk : k ≤ 64) : (quoN a b k).1 + 1 < 4294967296 ^ 76 := by
 obtain ⟨E, hE, hcap⟩ : ∃ E, E = 1280 ∧ capD = 2 ^ E := ⟨capE, rfl, capD_eq⟩
 have h := ha.1
 rw [hcap] at h
 have hbe : b.e ≤ 1024 := hb.2.1
 have h0 : (quoN a b k).1 ≤ a.m * 2 ^ (b.e + k) := Nat.div_le_self _ _
 have h1 : a.m * 2 ^ (b.e + k) ≤ 2 ^ E * 2 ^ (b.e + k) := Nat.mul_le_mul_right _ (Nat.le_of_lt h)
 rw [← Nat.pow_add] at h1
 obtain ⟨K, hK⟩ : ∃ K, K = 76 := ⟨_, rfl⟩
 have h2 : 2 ^ (E + (b.e + k)) * 2 ≤ 2 ^ (32 * K) := by
  rw [← Nat.pow_succ]
  exact Nat.pow_le_pow_right (by decide) (by omega)
 have h3 : 2 ≤ 2 ^ (E + (b.e + k)) := by
  have := Nat.pow_le_pow_right (show 0 < 2 by decide) (show 1 ≤ E + (b.e + k) by omega)
  simpa using this
 rw [← hK, b32]
 generalize 2 ^ (32 * K) = c at *
 omega
set_option maxHeartbeats 12800000 in
set_option maxRecDepth 100000 in
/-- ratio.to, of dyads that may be. -/
theorem to_dn (w : World) (a b : Dn) (ha : a.May) (hb_ : b.May) (hbn : b.neg = false) (hb0 : b.m ≠ 0) (A1 A2 : Option Addr) (n1 c1 n2 c2 : Nat) (h1 : Ints w 0 w.heap.size .u32 A1 n1 (canon 4294967296 a.m)) (h2 : Ints w 0 w.heap.size .u32 A2 n2 (canon 4294967296 b.m)) (k : Nat) (hk : k ≤ 64) (away : Bool) (r : Dn) (code : Int) (h : toD a b k away = (r, code)) :
  Calls Tryz.prog 136 #[.agg #[.bool a.neg, .slice A1 n1 c1, .int .i64 a.e], .agg #[.bool b.neg, .slice A2 n2 c2, .int .i64 b.e], .int .i64 k, .bool away] w (Formed w r code) := by
 have H := Lib.hid h
 have HA := Lib.hid ha
 have HB := Lib.hid hb_
 have HB0 := Lib.hid hb0
 have HASK := Lib.hid (ask_ok ha hb_ hbn hb0 hk)
 have HRM := Lib.hid (quo_room ha hb_ hk)
 clear h ha hb_ hbn hb0
 obtain ⟨z, hz⟩ : ∃ z, decide ((quoN a b k).2 = 0) = z := ⟨_, rfl⟩
 have HZ := Lib.hid hz
 clear hz
 obtain ⟨hz_, hi81⟩ := zero_of_info Tryz.info157
 have hI := Lib.hid hi81
 clear hi81
 have hz76 : zero76.length = 76 := by simp [zero76]
 have HZL := Lib.hid hz76
 clear hz76
 generalize hw : ((w.alloc (.cells #[.bool a.neg, .slice A1 n1 c1, .int .i64 a.e] 24)).alloc (.cells #[.bool b.neg, .slice A2 n2 c2, .int .i64 b.e] 24)).alloc (.cells #[.bool false, .slice none 0 0, .int .i64 0] 24) = w1
 obtain ⟨D1, D2, D3, b1, l1, l2⟩ := boxes3R w _ _ _ hw
 replace D3 : w1.heap[w.heap.size + 1 + 1]? = some (.cells #[.bool false, .slice none 0 0, .int .i64 0] 24 (0, 0)) := D3
 replace h1 := h1.below b1 (Nat.le_refl _)
 replace h2 := h2.below b1 (Nat.le_refl _)
 obtain ⟨⟨p0, p1, p2⟩, p3, p4, p5⟩ := boxD D1
 obtain ⟨⟨q0, q1, q2⟩, q3, q4, q5⟩ := boxD D2
 go_enter Tryz.func136, Tryz.ntmps136
 go_wp2_with fail
 try clear hw
 refine (asked_all w1 a.neg b.neg A1 A2 n1 c1 n2 c2 _ _ a.e b.e (h1.more (Nat.le_refl _) (by omega)) (h2.more (Nat.le_refl _) (by omega)) k 0 HASK.out).mono ?_
 rintro e w2 ⟨rfl, hB⟩
 have ls2 := hB.size
 replace D1 := (hB.block _ (by omega)).trans D1
 replace D2 := (hB.block _ (by omega)).trans D2
 replace D3 := (hB.block _ (by omega)).trans D3
 replace h1 := h1.below hB (by omega)
 replace h2 := h2.below hB (by omega)
 replace b1 := b1.trans (hB.mono (by omega))
 clear hB p0 p1 p2 p3 p4 p5 q0 q1 q2 q3 q4 q5
 obtain ⟨⟨p0, p1, p2⟩, p3, p4, p5⟩ := boxD D1
 obtain ⟨⟨q0, q1, q2⟩, q3, q4, q5⟩ := boxD D2
 go_wp2_with fail
 refine (ratioPart_any w2 a b HA.out HB.out HB0.out A1 A2 n1 c1 n2 c2 (h1.more (Nat.le_refl _) (by omega)) (h2.more (Nat.le_refl _) (by omega)) k hk z HZ.out).mono ?_
 rintro e w3 ⟨qs, rfl, hB, hql, hqd, hqn⟩
 have ls3 := hB.size
 replace D1 := (hB.block _ (by omega)).trans D1
 replace D3 := (hB.block _ (by omega)).trans D3
 replace b1 := b1.trans (hB.mono (by omega))
 replace hql := Lib.hid hql
 replace hqn := Lib.hid hqn
 clear hB p0 p1 p2 p3 p4 p5 q0 q1 q2 q3 q4 q5 h1 h2 D2
 obtain ⟨⟨p0, p1, p2⟩, p3, p4, p5⟩ := boxD D1
 have hX0 : (w3.alloc (.cells (rowU zero76) 157)).heap[w3.heap.size]? = some (.cells (rowU zero76) 157 (0, 0)) := heap_alloc_last _ _
 have hsz0 : (Tryz.prog.info? 157).map (·.size) = some (rowU qs).size := by rw [rowU_size, hql.out]; exact hI.out
 have HS0 := Lib.hid hsz0
 clear hsz0
 have hV := setRow_heap (w3.alloc (.cells (rowU zero76) 157)) w3.heap.size (rowU zero76) (rowU qs) _ _ hX0
 have hB4 : Below w3.heap.size w3 ((w3.alloc (.cells (rowU zero76) 157)).setRow w3.heap.size (rowU qs)) := below_setRow ((Below.refl _ _).alloc (Nat.le_refl _) _) (Nat.le_refl _) _
 have ls4 : w3.heap.size < ((w3.alloc (.cells (rowU zero76) 157)).setRow w3.heap.size (rowU qs)).heap.size := by rw [size_setRow, World.size_alloc]; exact Nat.lt_succ_self _
 obtain ⟨w4, hw4⟩ : ∃ w4, (w3.alloc (.cells (rowU zero76) 157)).setRow w3.heap.size (rowU qs) = w4 := ⟨_, rfl⟩
 rw [hw4] at hV hB4 ls4
 have hW4 : WideR w4 w3.heap.size qs := ⟨hV, hql.out, hqd⟩
 replace D1 := (hB4.block _ (by omega)).trans D1
 replace D3 := (hB4.block _ (by omega)).trans D3
 replace b1 := b1.trans (hB4.mono (by omega))
 clear hV hB4
 have one : z = false → away = true → Hid (formed a.neg (num 4294967296 qs + 1) k = (r, code)) := fun hzf ha => Lib.hid (by
  have hh := H.out
  have h2 : (quoN a b k).2 ≠ 0 := by have := HZ.out; rw [hzf] at this; simpa using this
  unfold toD at hh
  rw [if_pos ⟨h2, ha⟩, ← hqn.out] at hh
  exact hh)
 have none_ : z = true ∨ away = false → Hid (formed a.neg (num 4294967296 qs) k = (r, code)) := fun hh2 => Lib.hid (by
  have hh := H.out
  unfold toD at hh
  rw [if_neg (by
   rintro ⟨h2, ha⟩
   rcases hh2 with h | h
   · have := HZ.out
     rw [h] at this
     exact h2 (by simpa using this)
   · rw [h] at ha
     cases ha), Nat.add_zero, ← hqn.out] at hh
  exact hh)
 replace one := Lib.hid one
 replace none_ := Lib.hid none_
 cases z
 · cases away
   · skip
     obtain ⟨⟨p0', p1', p2'⟩, p3', p4', p5'⟩ := boxD D1
     go_wp2_with (first
      | (refine wpList_store_row rfl 157 (.tmp 11) (.tmp 26) rfl w3.heap.size (rowU qs) rfl rfl _ _ hX0 HS0.out (by rw [rowU_size, rowU_size, hql.out]; exact HZL.out) (rowU_one qs) ?_))
     try rw [hw4]
     have HF := none_.out (.inr (by first | rfl | trivial))
     refine (formR_any w4 w3.heap.size qs hW4 a.neg k hk r code HF.out).mono ?_
     rintro e w9 ⟨A9, n9, c9, rfl, hnc, hB, I9⟩
     have ls9 := hB.size
     replace D3 := (hB.block _ (by omega)).trans D3
     replace b1 := b1.trans (hB.mono (by omega))
     clear hB p0 p1 p2 p3 p4 p5
     obtain ⟨⟨z0, z1, z2⟩, z3, z4, z5⟩ := boxD D3
     obtain ⟨U, hU, hX, hbU, hfU, s1, s2⟩ := zputR D3 (.bool r.neg) (.slice A9 n9 c9) (.int .i64 r.e)
     go_wp2
     try rw [hU]
     clear hU z0 z1 z2 z3 z4 z5
     obtain ⟨⟨z0, z1, z2⟩, _⟩ := boxD hX
     exact bodyPost_ret (v := .tuple #[.agg #[.bool r.neg, .slice A9 n9 c9, .int .i64 r.e], .int .i64 code]) (by simp [results, Tryz.results136, go_sem, z0, z1, z2]) rfl ⟨A9, n9, c9, rfl, hnc, hbU _ _ b1 (by omega), (intsR I9 (fun b h1 h2 => hfU b (by omega))).more (by omega) (by omega)⟩
   · skip
     obtain ⟨⟨p0', p1', p2'⟩, p3', p4', p5'⟩ := boxD D1
     go_wp2_with (first
      | (refine wpList_store_row rfl 157 (.tmp 11) (.tmp 26) rfl w3.heap.size (rowU qs) rfl rfl _ _ hX0 HS0.out (by rw [rowU_size, rowU_size, hql.out]; exact HZL.out) (rowU_one qs) ?_))
     try rw [hw4]
     clear p0' p1' p2' p3' p4' p5'
     refine (oneR_any w4 w3.heap.size qs hW4 (num 4294967296 qs + 1) rfl (by rw [hqn.out]; exact HRM.out)).mono ?_
     rintro e w5 ⟨rfl, hO, vs, hW5, hvn⟩
     have ls5 := hO.size
     replace D1 := (hO.block _ (by omega) (by omega)).trans D1
     replace D3 := (hO.block _ (by omega) (by omega)).trans D3
     replace b1 := hO.below b1 (by omega) (by omega)
     replace hvn := Lib.hid hvn
     clear hO hW4 p0 p1 p2 p3 p4 p5
     obtain ⟨⟨p0, p1, p2⟩, p3, p4, p5⟩ := boxD D1
     go_wp2_with fail
     have HF := Lib.hid (show formed a.neg (num 4294967296 vs) k = (r, code) by rw [hvn.out]; exact (one.out (by first | rfl | trivial) (by first | rfl | trivial)).out)
     refine (formR_any w5 w3.heap.size vs hW5 a.neg k hk r code HF.out).mono ?_
     rintro e w9 ⟨A9, n9, c9, rfl, hnc, hB, I9⟩
     have ls9 := hB.size
     replace D3 := (hB.block _ (by omega)).trans D3
     replace b1 := b1.trans (hB.mono (by omega))
     clear hB p0 p1 p2 p3 p4 p5
     obtain ⟨⟨z0, z1, z2⟩, z3, z4, z5⟩ := boxD D3
     obtain ⟨U, hU, hX, hbU, hfU, s1, s2⟩ := zputR D3 (.bool r.neg) (.slice A9 n9 c9) (.int .i64 r.e)
     go_wp2
     try rw [hU]
     clear hU z0 z1 z2 z3 z4 z5
     obtain ⟨⟨z0, z1, z2⟩, _⟩ := boxD hX
     exact bodyPost_ret (v := .tuple #[.agg #[.bool r.neg, .slice A9 n9 c9, .int .i64 r.e], .int .i64 code]) (by simp [results, Tryz.results136, go_sem, z0, z1, z2]) rfl ⟨A9, n9, c9, rfl, hnc, hbU _ _ b1 (by omega), (intsR I9 (fun b h1 h2 => hfU b (by omega))).more (by omega) (by omega)⟩
 · skip
   obtain ⟨⟨p0', p1', p2'⟩, p3', p4', p5'⟩ := boxD D1
   go_wp2_with (first
    | (refine wpList_store_row rfl 157 (.tmp 11) (.tmp 26) rfl w3.heap.size (rowU qs) rfl rfl _ _ hX0 HS0.out (by rw [rowU_size, rowU_size, hql.out]; exact HZL.out) (rowU_one qs) ?_))
   try rw [hw4]
   have HF := none_.out (.inl (by first | rfl | trivial))
   refine (formR_any w4 w3.heap.size qs hW4 a.neg k hk r code HF.out).mono ?_
   rintro e w9 ⟨A9, n9, c9, rfl, hnc, hB, I9⟩
   have ls9 := hB.size
   replace D3 := (hB.block _ (by omega)).trans D3
   replace b1 := b1.trans (hB.mono (by omega))
   clear hB p0 p1 p2 p3 p4 p5
   obtain ⟨⟨z0, z1, z2⟩, z3, z4, z5⟩ := boxD D3
   obtain ⟨U, hU, hX, hbU, hfU, s1, s2⟩ := zputR D3 (.bool r.neg) (.slice A9 n9 c9) (.int .i64 r.e)
   go_wp2
   try rw [hU]
   clear hU z0 z1 z2 z3 z4 z5
   obtain ⟨⟨z0, z1, z2⟩, _⟩ := boxD hX
   exact bodyPost_ret (v := .tuple #[.agg #[.bool r.neg, .slice A9 n9 c9, .int .i64 r.e], .int .i64 code]) (by simp [results, Tryz.results136, go_sem, z0, z1, z2]) rfl ⟨A9, n9, c9, rfl, hnc, hbU _ _ b1 (by omega), (intsR I9 (fun b h1 h2 => hfU b (by omega))).more (by omega) (by omega)⟩
noncomputable def toX (s1 : Bool) (xs1 : List Int) (e1 : Int) (s2 : Bool) (xs2 : List Int) (e2 : Int) (k : Int) (away : Bool) : Dn × Int :=
 if askX s1 xs1 e1 s2 xs2 e2 k = 0 then toD (dn s1 xs1 e1) (dn s2 xs2 e2) k.toNat away else (Dn.zero, askX s1 xs1 e1 s2 xs2 e2 k)
set_option maxHeartbeats 6400000 in
set_option maxRecDepth 100000 in
/-- ratio.to: an error. -/
theorem to_bad (w : World) (s1 s2 : Bool) (A1 A2 : Option Addr) (n1 c1 n2 c2 : Nat) (xs1 xs2 : List Int) (e1 e2 : Int) (h1 : Ints w 0 w.heap.size .u32 A1 n1 xs1) (h2 : Ints w 0 w.heap.size .u32 A2 n2 xs2) (k : Int) (away : Bool) (q : Int) (hq : askX s1 xs1 e1 s2 xs2 e2 k = q) (hq0 : q = 2 ∨ q = 8) :
  Calls Tryz.prog 136 #[.agg #[.bool s1, .slice A1 n1 c1, .int .i64 e1], .agg #[.bool s2, .slice A2 n2 c2, .int .i64 e2], .int .i64 k, .bool away] w (Formed w Dn.zero q) := by
 have HQ := Lib.hid hq
 clear hq
 generalize hw : ((w.alloc (.cells #[.bool s1, .slice A1 n1 c1, .int .i64 e1] 24)).alloc (.cells #[.bool s2, .slice A2 n2 c2, .int .i64 e2] 24)).alloc (.cells #[.bool false, .slice none 0 0, .int .i64 0] 24) = w1
 obtain ⟨D1, D2, D3, b1, l1, l2⟩ := boxes3R w _ _ _ hw
 replace D3 : w1.heap[w.heap.size + 1 + 1]? = some (.cells #[.bool false, .slice none 0 0, .int .i64 0] 24 (0, 0)) := D3
 replace h1 := h1.below b1 (Nat.le_refl _)
 replace h2 := h2.below b1 (Nat.le_refl _)
 obtain ⟨⟨p0, p1, p2⟩, p3, p4, p5⟩ := boxD D1
 obtain ⟨⟨q0, q1, q2⟩, q3, q4, q5⟩ := boxD D2
 go_enter Tryz.func136, Tryz.ntmps136
 go_wp2_with fail
 try clear hw
 refine (asked_all w1 s1 s2 A1 A2 n1 c1 n2 c2 xs1 xs2 e1 e2 (h1.more (Nat.le_refl _) (by omega)) (h2.more (Nat.le_refl _) (by omega)) k q HQ.out).mono ?_
 rintro e w2 ⟨rfl, hB⟩
 have ls2 := hB.size
 replace D3 := (hB.block _ (by omega)).trans D3
 replace b1 := b1.trans (hB.mono (by omega))
 clear hB p0 p1 p2 p3 p4 p5 q0 q1 q2 q3 q4 q5 h1 h2 D2 D1
 obtain ⟨⟨z0, z1, z2⟩, z3, z4, z5⟩ := boxD D3
 obtain ⟨U, hU, hX, hbU, hfU, s1', s2'⟩ := zputR D3 (.bool false) (.slice none 0 0) (.int .i64 0)
 rcases hq0 with rfl | rfl
 all_goals
  go_wp2
  try rw [hU]
  clear hU z0 z1 z2 z3 z4 z5
  obtain ⟨⟨z0, z1, z2⟩, _⟩ := boxD hX
  exact bodyPost_ret (v := .tuple #[.agg #[.bool false, .slice none 0 0, .int .i64 0], .int .i64 _]) (by simp [results, Tryz.results136, go_sem, z0, z1, z2]) rfl ⟨none, 0, 0, rfl, Nat.le_refl _, hbU _ _ b1 (by omega), Ints.nil_ ..⟩
/-- ratio.to. -/
theorem to_all (w : World) (s1 s2 : Bool) (A1 A2 : Option Addr) (n1 c1 n2 c2 : Nat) (xs1 xs2 : List Int) (e1 e2 : Int) (h1 : Ints w 0 w.heap.size .u32 A1 n1 xs1) (h2 : Ints w 0 w.heap.size .u32 A2 n2 xs2) (k : Int) (away : Bool) (r : Dn) (code : Int) (h : toX s1 xs1 e1 s2 xs2 e2 k away = (r, code)) :
  Calls Tryz.prog 136 #[.agg #[.bool s1, .slice A1 n1 c1, .int .i64 e1], .agg #[.bool s2, .slice A2 n2 c2, .int .i64 e2], .int .i64 k, .bool away] w (Formed w r code) := by
 unfold toX at h
 split at h
 · rename_i hm
   obtain ⟨m1, m2, hs, hx, k0, k1⟩ := ask_zero hm
   obtain ⟨y1, c1', t1⟩ := dn_ok (dig_ints h1) m1
   obtain ⟨y2, c2', t2⟩ := dn_ok (dig_ints h2) m2
   have hb0 : (dn s2 xs2 e2).m ≠ 0 := fun e => hx (by rw [← c2', e]; rfl)
   have := to_dn w (dn s1 xs1 e1) (dn s2 xs2 e2) y1 y2 hs hb0 A1 A2 n1 c1 n2 c2 (by rw [c1']; exact h1) (by rw [c2']; exact h2) k.toNat (by omega) away r code h
   rw [t1, t2, show ((k.toNat : Nat) : Int) = k by omega] at this
   exact this
 · rename_i hm
   injection h with h3 h4
   subst h3 h4
   exact to_bad w s1 s2 A1 A2 n1 c1 n2 c2 xs1 xs2 e1 e2 h1 h2 k away _ rfl ((ask_two ..).resolve_left hm)
set_option maxHeartbeats 6400000 in
set_option maxRecDepth 100000 in
/-- ratio.Floor. -/
theorem Floor_all (w : World) (s1 s2 : Bool) (A1 A2 : Option Addr) (n1 c1 n2 c2 : Nat) (xs1 xs2 : List Int) (e1 e2 : Int) (h1 : Ints w 0 w.heap.size .u32 A1 n1 xs1) (h2 : Ints w 0 w.heap.size .u32 A2 n2 xs2) (k : Int) (r : Dn) (code : Int) (h : toX s1 xs1 e1 s2 xs2 e2 k s1 = (r, code)) :
  Calls Tryz.prog 75 #[.agg #[.bool s1, .slice A1 n1 c1, .int .i64 e1], .agg #[.bool s2, .slice A2 n2 c2, .int .i64 e2], .int .i64 k] w (Formed w r code) := by
 have H := Lib.hid h
 clear h
 generalize hw : ((w.alloc (.cells #[.bool s1, .slice A1 n1 c1, .int .i64 e1] 24)).alloc (.cells #[.bool s2, .slice A2 n2 c2, .int .i64 e2] 24)).alloc (.cells #[.bool false, .slice none 0 0, .int .i64 0] 24) = w1
 obtain ⟨D1, D2, D3, b1, l1, l2⟩ := boxes3R w _ _ _ hw
 replace D3 : w1.heap[w.heap.size + 1 + 1]? = some (.cells #[.bool false, .slice none 0 0, .int .i64 0] 24 (0, 0)) := D3
 replace h1 := h1.below b1 (Nat.le_refl _)
 replace h2 := h2.below b1 (Nat.le_refl _)
 obtain ⟨⟨p0, p1, p2⟩, p3, p4, p5⟩ := boxD D1
 obtain ⟨⟨q0, q1, q2⟩, q3, q4, q5⟩ := boxD D2
 go_enter Tryz.func75, Tryz.ntmps75
 go_wp2_with fail
 try clear hw
 refine (to_all w1 s1 s2 A1 A2 n1 c1 n2 c2 xs1 xs2 e1 e2 (h1.more (Nat.le_refl _) (by omega)) (h2.more (Nat.le_refl _) (by omega)) k s1 r code H.out).mono ?_
 rintro e w2 ⟨A9, n9, c9, rfl, hnc, hB, I9⟩
 have ls2 := hB.size
 replace D3 := (hB.block _ (by omega)).trans D3
 replace b1 := b1.trans (hB.mono (by omega))
 clear hB p0 p1 p2 p3 p4 p5 q0 q1 q2 q3 q4 q5 h1 h2 D2 D1
 obtain ⟨⟨z0, z1, z2⟩, z3, z4, z5⟩ := boxD D3
 obtain ⟨U, hU, hX, hbU, hfU, s1', s2'⟩ := zputR D3 (.bool r.neg) (.slice A9 n9 c9) (.int .i64 r.e)
 go_wp2
 try rw [hU]
 clear hU z0 z1 z2 z3 z4 z5
 obtain ⟨⟨z0, z1, z2⟩, _⟩ := boxD hX
 exact bodyPost_ret (v := .tuple #[.agg #[.bool r.neg, .slice A9 n9 c9, .int .i64 r.e], .int .i64 code]) (by simp [results, Tryz.results75, go_sem, z0, z1, z2]) rfl ⟨A9, n9, c9, rfl, hnc, hbU _ _ b1 (by omega), (intsR I9 (fun b h1 h2 => hfU b (by omega))).more (by omega) (by omega)⟩
set_option maxHeartbeats 6400000 in
set_option maxRecDepth 100000 in
/-- ratio.Ceil. -/
theorem Ceil_all (w : World) (s1 s2 : Bool) (A1 A2 : Option Addr) (n1 c1 n2 c2 : Nat) (xs1 xs2 : List Int) (e1 e2 : Int) (h1 : Ints w 0 w.heap.size .u32 A1 n1 xs1) (h2 : Ints w 0 w.heap.size .u32 A2 n2 xs2) (k : Int) (r : Dn) (code : Int) (h : toX s1 xs1 e1 s2 xs2 e2 k (!s1) = (r, code)) :
  Calls Tryz.prog 76 #[.agg #[.bool s1, .slice A1 n1 c1, .int .i64 e1], .agg #[.bool s2, .slice A2 n2 c2, .int .i64 e2], .int .i64 k] w (Formed w r code) := by
 have H := Lib.hid h
 clear h
 generalize hw : ((w.alloc (.cells #[.bool s1, .slice A1 n1 c1, .int .i64 e1] 24)).alloc (.cells #[.bool s2, .slice A2 n2 c2, .int .i64 e2] 24)).alloc (.cells #[.bool false, .slice none 0 0, .int .i64 0] 24) = w1
 obtain ⟨D1, D2, D3, b1, l1, l2⟩ := boxes3R w _ _ _ hw
 replace D3 : w1.heap[w.heap.size + 1 + 1]? = some (.cells #[.bool false, .slice none 0 0, .int .i64 0] 24 (0, 0)) := D3
 replace h1 := h1.below b1 (Nat.le_refl _)
 replace h2 := h2.below b1 (Nat.le_refl _)
 obtain ⟨⟨p0, p1, p2⟩, p3, p4, p5⟩ := boxD D1
 obtain ⟨⟨q0, q1, q2⟩, q3, q4, q5⟩ := boxD D2
 go_enter Tryz.func76, Tryz.ntmps76
 go_wp2_with fail
 try clear hw
 refine (to_all w1 s1 s2 A1 A2 n1 c1 n2 c2 xs1 xs2 e1 e2 (h1.more (Nat.le_refl _) (by omega)) (h2.more (Nat.le_refl _) (by omega)) k (!s1) r code H.out).mono ?_
 rintro e w2 ⟨A9, n9, c9, rfl, hnc, hB, I9⟩
 have ls2 := hB.size
 replace D3 := (hB.block _ (by omega)).trans D3
 replace b1 := b1.trans (hB.mono (by omega))
 clear hB p0 p1 p2 p3 p4 p5 q0 q1 q2 q3 q4 q5 h1 h2 D2 D1
 obtain ⟨⟨z0, z1, z2⟩, z3, z4, z5⟩ := boxD D3
 obtain ⟨U, hU, hX, hbU, hfU, s1', s2'⟩ := zputR D3 (.bool r.neg) (.slice A9 n9 c9) (.int .i64 r.e)
 go_wp2
 try rw [hU]
 clear hU z0 z1 z2 z3 z4 z5
 obtain ⟨⟨z0, z1, z2⟩, _⟩ := boxD hX
 exact bodyPost_ret (v := .tuple #[.agg #[.bool r.neg, .slice A9 n9 c9, .int .i64 r.e], .int .i64 code]) (by simp [results, Tryz.results76, go_sem, z0, z1, z2]) rfl ⟨A9, n9, c9, rfl, hnc, hbU _ _ b1 (by omega), (intsR I9 (fun b h1 h2 => hfU b (by omega))).more (by omega) (by omega)⟩
end Dy
end Go.Proofs.YtmbppgjhdcmckaaGreatDoor
namespace Go.Proofs.YtmbppgjhdcmckaaGreatDoor
open Go.RowKit
namespace Dy
open Dp
theorem half_limb {x y : Nat} (hx : x < 4294967296) : bits .or .u32 ((x / 2 : Nat) : Int) ((y * 2147483648 % 4294967296 : Nat) : Int) = (((y * 4294967296 + x) / 2 ^ 1 % 4294967296 : Nat) : Int) := by
 obtain ⟨f1, f2, f3⟩ := first_limb (x := x) (y := y) (r := 1) hx (by decide) (by decide)
 rw [show (2 : Nat) ^ (32 - 1) = 2147483648 by rfl, Nat.pow_one] at *
 rw [u32_or_nat _ _ (by omega) (Nat.mod_lt _ (by decide)), Nat.or_comm]
 rw [nat_join 31 (y * 2147483648 % 4294967296) (x / 2) (by rw [show (2 : Nat) ^ 31 = 2147483648 by rfl]; exact f1) (by rw [show (2 : Nat) ^ 31 = 2147483648 by rfl]; exact f2), Nat.add_comm, f3]
/-- What stands amid the rounds of 'Near'. -/
def HalfI (M i : Nat) (cur : List Int) : Prop := ∀ j, j < i → cur[j]?.getD 0 = ((M / 4294967296 ^ j % 4294967296 : Nat) : Int)
theorem HalfI.set {M i d : Nat} {cur : List Int} (h : HalfI M i cur) (hi : i < cur.length) (hv : d = M / 4294967296 ^ i % 4294967296) : HalfI M (i + 1) (cur.set i (d : Int)) := fun j hj => by
 by_cases hji : j = i
 · subst hji
   rw [List.getElem?_set_self hi, ← hv]
   rfl
 · rw [set_far _ _ (fun e => hji e.symm)]
   exact h j (by omega)
set_option maxHeartbeats 12800000 in
set_option maxRecDepth 100000 in
/-- ratio.Near, of dyads that may be. -/
theorem near_dn (w : World) (a b : Dn) (s : Bool) (hsa : a.neg = s) (ha : a.May) (hb_ : b.May) (hbn : b.neg = false) (hb0 : b.m ≠ 0) (A1 A2 : Option Addr) (n1 c1 n2 c2 : Nat) (h1 : Ints w 0 w.heap.size .u32 A1 n1 (canon 4294967296 a.m)) (h2 : Ints w 0 w.heap.size .u32 A2 n2 (canon 4294967296 b.m)) (r : Dn) (code : Int) (h : nearD a b = (r, code)) :
  Calls Tryz.prog 72 #[.agg #[.bool s, .slice A1 n1 c1, .int .i64 a.e], .agg #[.bool b.neg, .slice A2 n2 c2, .int .i64 b.e]] w (Formed w r code) := by
 have H := Lib.hid h
 have HA := Lib.hid ha
 have HB := Lib.hid hb_
 have HB0 := Lib.hid hb0
 have HSA := Lib.hid hsa
 have hask := ask_ok ha hb_ hbn hb0 (k := 0) (by decide)
 rw [hsa] at hask
 have HASK := Lib.hid hask
 have HRM := Lib.hid (quo_room ha hb_ (k := 1) (by decide))
 clear h ha hb_ hbn hb0 hask hsa
 obtain ⟨z, hz⟩ : ∃ z, decide ((quoN a b 1).2 = 0) = z := ⟨_, rfl⟩
 have HZ := Lib.hid hz
 clear hz
 obtain ⟨hz_, hi81⟩ := zero_of_info Tryz.info157
 have hI := Lib.hid hi81
 clear hi81
 have hz76 : zero76.length = 76 ∧ Dig 4294967296 zero76 := ⟨by simp [zero76], fun x hx => by have := List.eq_of_mem_replicate hx; omega⟩
 have HZL := Lib.hid hz76
 clear hz76
 generalize hw : ((w.alloc (.cells #[.bool s, .slice A1 n1 c1, .int .i64 a.e] 24)).alloc (.cells #[.bool b.neg, .slice A2 n2 c2, .int .i64 b.e] 24)).alloc (.cells #[.bool false, .slice none 0 0, .int .i64 0] 24) = w1
 obtain ⟨D1, D2, D3, b1, l1, l2⟩ := boxes3R w _ _ _ hw
 replace D3 : w1.heap[w.heap.size + 1 + 1]? = some (.cells #[.bool false, .slice none 0 0, .int .i64 0] 24 (0, 0)) := D3
 replace h1 := h1.below b1 (Nat.le_refl _)
 replace h2 := h2.below b1 (Nat.le_refl _)
 obtain ⟨⟨p0, p1, p2⟩, p3, p4, p5⟩ := boxD D1
 obtain ⟨⟨q0, q1, q2⟩, q3, q4, q5⟩ := boxD D2
 go_enter Tryz.func72, Tryz.ntmps72
 go_wp2_with fail
 try clear hw
 refine (asked_all w1 s b.neg A1 A2 n1 c1 n2 c2 _ _ a.e b.e (h1.more (Nat.le_refl _) (by omega)) (h2.more (Nat.le_refl _) (by omega)) 0 0 HASK.out).mono ?_
 rintro e w2 ⟨rfl, hB⟩
 have ls2 := hB.size
 replace D1 := (hB.block _ (by omega)).trans D1
 replace D2 := (hB.block _ (by omega)).trans D2
 replace D3 := (hB.block _ (by omega)).trans D3
 replace h1 := h1.below hB (by omega)
 replace h2 := h2.below hB (by omega)
 replace b1 := b1.trans (hB.mono (by omega))
 clear hB p0 p1 p2 p3 p4 p5 q0 q1 q2 q3 q4 q5
 obtain ⟨⟨p0, p1, p2⟩, p3, p4, p5⟩ := boxD D1
 obtain ⟨⟨q0, q1, q2⟩, q3, q4, q5⟩ := boxD D2
 go_wp2_with fail
 have hpart := ratioPart_any w2 a b HA.out HB.out HB0.out A1 A2 n1 c1 n2 c2 (h1.more (Nat.le_refl _) (by omega)) (h2.more (Nat.le_refl _) (by omega)) 1 (by decide) z HZ.out
 rw [HSA.out] at hpart
 refine hpart.mono ?_
 clear hpart
 rintro e w3 ⟨qs, rfl, hB, hql, hqd, hqn⟩
 have ls3 := hB.size
 replace D1 := (hB.block _ (by omega)).trans D1
 replace D3 := (hB.block _ (by omega)).trans D3
 replace b1 := b1.trans (hB.mono (by omega))
 replace hql := Lib.hid hql
 replace hqn := Lib.hid hqn
 clear hB p0 p1 p2 p3 p4 p5 q0 q1 q2 q3 q4 q5 h1 h2 D2
 have hX0 : (w3.alloc (.cells (rowU zero76) 157)).heap[w3.heap.size]? = some (.cells (rowU zero76) 157 (0, 0)) := heap_alloc_last _ _
 have hsz0 : (Tryz.prog.info? 157).map (·.size) = some (rowU qs).size := by rw [rowU_size, hql.out]; exact hI.out
 have HS0 := Lib.hid hsz0
 clear hsz0
 have hV := setRow_heap (w3.alloc (.cells (rowU zero76) 157)) w3.heap.size (rowU zero76) (rowU qs) _ _ hX0
 have hB4 : Below w3.heap.size w3 ((w3.alloc (.cells (rowU zero76) 157)).setRow w3.heap.size (rowU qs)) := below_setRow ((Below.refl _ _).alloc (Nat.le_refl _) _) (Nat.le_refl _) _
 have ls4 : w3.heap.size < ((w3.alloc (.cells (rowU zero76) 157)).setRow w3.heap.size (rowU qs)).heap.size := by rw [size_setRow, World.size_alloc]; exact Nat.lt_succ_self _
 obtain ⟨w4, hw4⟩ : ∃ w4, (w3.alloc (.cells (rowU zero76) 157)).setRow w3.heap.size (rowU qs) = w4 := ⟨_, rfl⟩
 rw [hw4] at hV hB4 ls4
 have hW4 : WideR w4 w3.heap.size qs := ⟨hV, hql.out, hqd⟩
 replace D1 := (hB4.block _ (by omega)).trans D1
 replace D3 := (hB4.block _ (by omega)).trans D3
 replace b1 := b1.trans (hB4.mono (by omega))
 clear hV hB4
 go_upto_region 5 with (first
  | (refine wpList_store_row rfl 157 (.tmp 7) (.tmp 23) rfl w3.heap.size (rowU qs) rfl rfl _ _ hX0 HS0.out (by rw [rowU_size, rowU_size, hql.out]; exact HZL.out.1) (rowU_one qs) ?_))
 try rw [hw4]
 clear hX0 hw4
 -- the lowest limb
 obtain ⟨p, hp, hp2⟩ := dig_get (by decide) hqd 0
 have g0 := hW4.cell (j := 0) (by decide)
 rw [hp] at g0
 obtain ⟨bb, hbb⟩ : ∃ bb, num 4294967296 qs % 2 = bb := ⟨_, rfl⟩
 have hpb : p % 2 = bb := by
  have := num_odd qs hqd
  rw [hp] at this
  omega
 have hand : bits .and .u32 (p : Int) 1 = (bb : Int) := by
  have := u32_and_nat p 1 hp2 (by decide)
  rw [show ((1 : Nat) : Int) = 1 from rfl] at this
  rw [this, Nat.and_one_is_mod, hpb]
 have HBB := Lib.hid hbb
 have hb2 : bb = 0 ∨ bb = 1 := by omega
 clear hp hpb hbb
 generalize hw5 : w4.alloc (.cells (rowU zero76) 157) = w5
 have hH5 : WideR w5 w4.heap.size zero76 := ⟨by rw [← hw5]; exact heap_alloc_last _ _, HZL.out.1, HZL.out.2⟩
 have hB5 : Below w4.heap.size w4 w5 := by rw [← hw5]; exact (Below.refl _ _).alloc (Nat.le_refl _) _
 have ls5 : w4.heap.size < w5.heap.size := by rw [← hw5]; simp
 have hW5 : WideR w5 w3.heap.size qs := hW4.of_heap (hB5.block _ ls4)
 replace D1 := (hB5.block _ (by omega)).trans D1
 replace D3 := (hB5.block _ (by omega)).trans D3
 replace b1 := b1.trans (hB5.mono (by omega))
 clear hB5
 obtain ⟨N, hN⟩ : ∃ N, num 4294967296 qs = N := ⟨_, rfl⟩
 obtain ⟨M, hM⟩ : ∃ M, N / 2 = M := ⟨_, rfl⟩
 have HN := Lib.hid hN
 have HM := Lib.hid hM
 rw [hN] at hqn HBB
 have hq76 : N < 4294967296 ^ 76 := by
  have := num_lt 4294967296 (by decide) qs hqd
  rw [hql.out, hN] at this
  exact this
 have HQ76 := Lib.hid hq76
 replace hqd := Lib.hid hqd
 clear hN hM hq76
 go_wp2_with fail
 try clear hw5
 clear g0 hand hW4
 go_loopw [11, 29] (fun _ iv wr => ∃ (i : Nat) (cur : List Int), iv = .int .i64 i ∧ i ≤ 76 ∧ WideR wr w4.heap.size cur ∧ OnlyAt w4.heap.size w5 wr ∧ Hid (HalfI M i cur)) (fun _ iv _ => 76 - (intOf iv).toNat)
 case atStart => exact ⟨0, zero76, rfl, Nat.zero_le _, hH5, OnlyAt.refl _ _, Lib.hid (fun j hj => absurd hj (Nat.not_lt_zero _))⟩
 case round =>
  clear hH5
  obtain ⟨i, cur, rfl, hi, hH, hO, hI'⟩ := hrel
  by_cases hlt : i < 76
  · obtain ⟨x, hx, hx2⟩ := dig_get (by decide) hqd.out i
    obtain ⟨y, hy, hy2⟩ := dig_get (by decide) hqd.out (i + 1)
    have hlaw := at_limb hqd.out i 1 y x (by simpa using hy) (by simpa using hx)
    have hW := hW5.of_heap (hO.block _ (by omega) (by omega))
    have c1 := hW.cell (j := i) hlt
    rw [hx] at c1
    obtain ⟨v, hv⟩ : ∃ v : Int, cur[i]?.getD 0 = v := ⟨_, rfl⟩
    have c2 := hH.cell (j := i) hlt
    rw [hv] at c2
    have f2 := hH.free i
    obtain ⟨x2, hx2'⟩ : ∃ x2, x / 2 = x2 := ⟨_, rfl⟩
    have ex : (x : Int) / 2 = (x2 : Int) := by omega
    have hx2lt : x2 < 4294967296 := by omega
    obtain ⟨y2, hy2'⟩ : ∃ y2, y * 2147483648 % 4294967296 = y2 := ⟨_, rfl⟩
    have ey : (y : Int) * 2147483648 % 4294967296 = (y2 : Int) := by omega
    have ey' : IntKind.u32.wrap ((y : Int) * 2147483648) = (y2 : Int) := by rw [IntKind.wrap_u32]; exact ey
    obtain ⟨d, hd⟩ : ∃ d, (y * 4294967296 + x) / 2 ^ 1 % 4294967296 = d := ⟨_, rfl⟩
    have hor := half_limb (y := y) hx2
    rw [hx2', hy2', hd] at hor
    have hd2 : d < 4294967296 := by rw [← hd]; exact Nat.mod_lt _ (by decide)
    have HV : Hid (d = M / 4294967296 ^ i % 4294967296) := Lib.hid (by
     rw [show (1 : Nat) % 32 = 1 by rfl] at hlaw
     rw [← hd, hlaw, HN.out, Nat.pow_one, HM.out])
    have H1 := hH.set i x2 hx2lt
    have hk0 : (0 : Int) ≤ i := by omega
    have hk1 : (i : Int) < 76 := by omega
    by_cases hl : i + 1 < 76
    · have c3 := hW.cell (j := i + 1) hl
      rw [hy] at c3
      have hli : (i : Int) + 1 < 76 := by omega
      have HXX := Lib.hid hx
      have HYY := Lib.hid hy
      have e3 : (cur.set i (x2 : Int))[i]?.getD 0 = (x2 : Int) := by simp [hH.len, hlt]
      have c4 := H1.cell (j := i) hlt
      rw [e3] at c4
      have f4 := H1.free i
      have hW2 : WideR (wr.setCell ⟨w4.heap.size, i, none⟩ (.int .u32 x2)) w3.heap.size qs := hW.of_heap (heap_setCell_other _ _ _ _ (by simp; omega))
      have c5 := hW2.cell (j := i + 1) hl
      rw [hy] at c5
      have HE := Lib.hid e3
      clear hx hy hv hx2' hy2' hd hlaw e3
      go_wp2_with fail
      go_region
      all_goals go_wp2
      all_goals go_roundw
      case rel => exact ⟨i + 1, (cur.set i (x2 : Int)).set i (d : Int), by first | rfl | go_num, by omega, (H1.set i d hd2).of_heap rfl, ((hO.setCell _).setCell _).drew, Lib.hid (by rw [List.set_set]; exact hI'.out.set (by rw [hH.len]; exact hlt) HV.out)⟩
      case measure => first | (simp [intOf]; done) | (simp [intOf]; omega)
    · have hi75 : 75 ≤ i := by omega
      have hy0 : y = 0 := by
       rw [List.getElem?_eq_none (by rw [hql.out]; omega)] at hy
       exact (Int.ofNat.inj hy).symm
      have hd3 : d = x2 := by
       rw [← hd, hy0, ← hx2']
       simp
       omega
      have hli : ¬ (i : Int) + 1 < 76 := by omega
      have hlb : decide ((i : Int) + 1 < 76) = false := decide_eq_false hli
      rw [hd3] at HV
      clear hx hy hv hx2' hy2' hd hlaw hor hd3 hy0
      go_wp2
      go_roundw
      case rel => exact ⟨i + 1, cur.set i (x2 : Int), by first | rfl | go_num, by omega, H1, hO.setCell _, Lib.hid (hI'.out.set (by rw [hH.len]; exact hlt) HV.out)⟩
      case measure => first | (simp [intOf]; done) | (simp [intOf]; omega)
  · have hi76 : i = 76 := by omega
    subst hi76
    have hnum : num 4294967296 cur = M := num_of cur M (fun j hj => hI'.out j (by rw [← hH.len]; exact hj)) (by
     rw [hH.len, ← HM.out]
     exact Nat.lt_of_le_of_lt (Nat.div_le_self _ _) HQ76.out)
    have HNUM := Lib.hid hnum
    have hsz := hO.size
    replace D1 := (hO.block _ (by omega) (by omega)).trans D1
    replace D3 := (hO.block _ (by omega) (by omega)).trans D3
    replace b1 := hO.below b1 (by omega) (by omega)
    clear hnum hI' hO hW5
    have none_ : (bb = 0 ∨ (s = true ∧ z = true)) → Hid (formed s (num 4294967296 cur) 0 = (r, code)) := fun hc => Lib.hid (by
     have hh := H.out
     unfold nearD at hh
     rw [← hqn.out, HSA.out, HM.out, HBB.out, if_neg, Nat.add_zero] at hh
     · rw [HNUM.out]
       exact hh
     · rintro ⟨k1, k2⟩
       rcases hc with hc | ⟨hc1, hc2⟩
       · omega
       · rcases k2 with k2 | k2
         · rw [hc1] at k2
           cases k2
         · have := HZ.out
           rw [hc2] at this
           exact k2 (by simpa using this))
    have one : bb = 1 → (s = false ∨ z = false) → Hid (formed s (num 4294967296 cur + 1) 0 = (r, code)) := fun hc hc2 => Lib.hid (by
     have hh := H.out
     unfold nearD at hh
     rw [← hqn.out, HSA.out, HM.out, HBB.out, if_pos] at hh
     · rw [HNUM.out]
       exact hh
     · refine ⟨hc, ?_⟩
       rcases hc2 with hc2 | hc2
       · exact .inl hc2
       · have := HZ.out
         rw [hc2] at this
         exact .inr (by simpa using this))
    replace none_ := Lib.hid none_
    replace one := Lib.hid one
    have hroom : Hid (num 4294967296 cur + 1 < 4294967296 ^ 76) := Lib.hid (by
     have h1 := HRM.out
     rw [← hqn.out] at h1
     rw [HNUM.out, ← HM.out]
     have h2 := Nat.div_le_self N 2
     generalize 4294967296 ^ 76 = c at *
     omega)
    obtain ⟨⟨p0, p1, p2⟩, p3, p4, p5⟩ := boxD D1
    rcases hb2 with rfl | rfl
    · cases s
      · go_wp2_with fail
        have HF := none_.out (.inl (by first | rfl | trivial))
        refine (formR_any wr w4.heap.size cur hH false 0 (by decide) r code HF.out).mono ?_
        rintro e w9 ⟨A9, n9, c9, rfl, hnc, hB, I9⟩
        have ls9 := hB.size
        replace D3 := (hB.block _ (by omega)).trans D3
        replace b1 := b1.trans (hB.mono (by omega))
        clear hB p0 p1 p2 p3 p4 p5
        obtain ⟨⟨z0, z1, z2⟩, z3, z4, z5⟩ := boxD D3
        obtain ⟨U, hU, hX, hbU, hfU, s1, s2⟩ := zputR D3 (.bool r.neg) (.slice A9 n9 c9) (.int .i64 r.e)
        go_wp2
        try rw [hU]
        clear hU z0 z1 z2 z3 z4 z5
        obtain ⟨⟨z0, z1, z2⟩, _⟩ := boxD hX
        exact bodyPost_ret (v := .tuple #[.agg #[.bool r.neg, .slice A9 n9 c9, .int .i64 r.e], .int .i64 code]) (by simp [results, Tryz.results72, go_sem, z0, z1, z2]) rfl ⟨A9, n9, c9, rfl, hnc, hbU _ _ b1 (by omega), (intsR I9 (fun b h1 h2 => hfU b (by omega))).more (by omega) (by omega)⟩
      · go_wp2_with fail
        have HF := none_.out (.inl (by first | rfl | trivial))
        refine (formR_any wr w4.heap.size cur hH true 0 (by decide) r code HF.out).mono ?_
        rintro e w9 ⟨A9, n9, c9, rfl, hnc, hB, I9⟩
        have ls9 := hB.size
        replace D3 := (hB.block _ (by omega)).trans D3
        replace b1 := b1.trans (hB.mono (by omega))
        clear hB p0 p1 p2 p3 p4 p5
        obtain ⟨⟨z0, z1, z2⟩, z3, z4, z5⟩ := boxD D3
        obtain ⟨U, hU, hX, hbU, hfU, s1, s2⟩ := zputR D3 (.bool r.neg) (.slice A9 n9 c9) (.int .i64 r.e)
        go_wp2
        try rw [hU]
        clear hU z0 z1 z2 z3 z4 z5
        obtain ⟨⟨z0, z1, z2⟩, _⟩ := boxD hX
        exact bodyPost_ret (v := .tuple #[.agg #[.bool r.neg, .slice A9 n9 c9, .int .i64 r.e], .int .i64 code]) (by simp [results, Tryz.results72, go_sem, z0, z1, z2]) rfl ⟨A9, n9, c9, rfl, hnc, hbU _ _ b1 (by omega), (intsR I9 (fun b h1 h2 => hfU b (by omega))).more (by omega) (by omega)⟩
    · cases s
      · skip
        go_wp2_with fail
        refine (oneR_any wr w4.heap.size cur hH (num 4294967296 cur + 1) rfl hroom.out).mono ?_
        rintro e w6 ⟨rfl, hO, vs, hW6, hvn⟩
        have ls6 := hO.size
        replace D1 := (hO.block _ (by omega) (by omega)).trans D1
        replace D3 := (hO.block _ (by omega) (by omega)).trans D3
        replace b1 := hO.below b1 (by omega) (by omega)
        replace hvn := Lib.hid hvn
        clear hO hH p0 p1 p2 p3 p4 p5
        obtain ⟨⟨p0, p1, p2⟩, p3, p4, p5⟩ := boxD D1
        go_wp2_with fail
        have HF := Lib.hid (show formed false (num 4294967296 vs) 0 = (r, code) by rw [hvn.out]; exact (one.out (by first | rfl | trivial) (.inl (by first | rfl | trivial))).out)
        refine (formR_any w6 w4.heap.size vs hW6 false 0 (by decide) r code HF.out).mono ?_
        rintro e w9 ⟨A9, n9, c9, rfl, hnc, hB, I9⟩
        have ls9 := hB.size
        replace D3 := (hB.block _ (by omega)).trans D3
        replace b1 := b1.trans (hB.mono (by omega))
        clear hB p0 p1 p2 p3 p4 p5
        obtain ⟨⟨z0, z1, z2⟩, z3, z4, z5⟩ := boxD D3
        obtain ⟨U, hU, hX, hbU, hfU, s1, s2⟩ := zputR D3 (.bool r.neg) (.slice A9 n9 c9) (.int .i64 r.e)
        go_wp2
        try rw [hU]
        clear hU z0 z1 z2 z3 z4 z5
        obtain ⟨⟨z0, z1, z2⟩, _⟩ := boxD hX
        exact bodyPost_ret (v := .tuple #[.agg #[.bool r.neg, .slice A9 n9 c9, .int .i64 r.e], .int .i64 code]) (by simp [results, Tryz.results72, go_sem, z0, z1, z2]) rfl ⟨A9, n9, c9, rfl, hnc, hbU _ _ b1 (by omega), (intsR I9 (fun b h1 h2 => hfU b (by omega))).more (by omega) (by omega)⟩
      · cases z
        · skip
          go_wp2_with fail
          refine (oneR_any wr w4.heap.size cur hH (num 4294967296 cur + 1) rfl hroom.out).mono ?_
          rintro e w6 ⟨rfl, hO, vs, hW6, hvn⟩
          have ls6 := hO.size
          replace D1 := (hO.block _ (by omega) (by omega)).trans D1
          replace D3 := (hO.block _ (by omega) (by omega)).trans D3
          replace b1 := hO.below b1 (by omega) (by omega)
          replace hvn := Lib.hid hvn
          clear hO hH p0 p1 p2 p3 p4 p5
          obtain ⟨⟨p0, p1, p2⟩, p3, p4, p5⟩ := boxD D1
          go_wp2_with fail
          have HF := Lib.hid (show formed true (num 4294967296 vs) 0 = (r, code) by rw [hvn.out]; exact (one.out (by first | rfl | trivial) (.inr (by first | rfl | trivial))).out)
          refine (formR_any w6 w4.heap.size vs hW6 true 0 (by decide) r code HF.out).mono ?_
          rintro e w9 ⟨A9, n9, c9, rfl, hnc, hB, I9⟩
          have ls9 := hB.size
          replace D3 := (hB.block _ (by omega)).trans D3
          replace b1 := b1.trans (hB.mono (by omega))
          clear hB p0 p1 p2 p3 p4 p5
          obtain ⟨⟨z0, z1, z2⟩, z3, z4, z5⟩ := boxD D3
          obtain ⟨U, hU, hX, hbU, hfU, s1, s2⟩ := zputR D3 (.bool r.neg) (.slice A9 n9 c9) (.int .i64 r.e)
          go_wp2
          try rw [hU]
          clear hU z0 z1 z2 z3 z4 z5
          obtain ⟨⟨z0, z1, z2⟩, _⟩ := boxD hX
          exact bodyPost_ret (v := .tuple #[.agg #[.bool r.neg, .slice A9 n9 c9, .int .i64 r.e], .int .i64 code]) (by simp [results, Tryz.results72, go_sem, z0, z1, z2]) rfl ⟨A9, n9, c9, rfl, hnc, hbU _ _ b1 (by omega), (intsR I9 (fun b h1 h2 => hfU b (by omega))).more (by omega) (by omega)⟩
        · go_wp2_with fail
          have HF := none_.out (.inr ⟨(by first | rfl | trivial), (by first | rfl | trivial)⟩)
          refine (formR_any wr w4.heap.size cur hH true 0 (by decide) r code HF.out).mono ?_
          rintro e w9 ⟨A9, n9, c9, rfl, hnc, hB, I9⟩
          have ls9 := hB.size
          replace D3 := (hB.block _ (by omega)).trans D3
          replace b1 := b1.trans (hB.mono (by omega))
          clear hB p0 p1 p2 p3 p4 p5
          obtain ⟨⟨z0, z1, z2⟩, z3, z4, z5⟩ := boxD D3
          obtain ⟨U, hU, hX, hbU, hfU, s1, s2⟩ := zputR D3 (.bool r.neg) (.slice A9 n9 c9) (.int .i64 r.e)
          go_wp2
          try rw [hU]
          clear hU z0 z1 z2 z3 z4 z5
          obtain ⟨⟨z0, z1, z2⟩, _⟩ := boxD hX
          exact bodyPost_ret (v := .tuple #[.agg #[.bool r.neg, .slice A9 n9 c9, .int .i64 r.e], .int .i64 code]) (by simp [results, Tryz.results72, go_sem, z0, z1, z2]) rfl ⟨A9, n9, c9, rfl, hnc, hbU _ _ b1 (by omega), (intsR I9 (fun b h1 h2 => hfU b (by omega))).more (by omega) (by omega)⟩
end Dy
end Go.Proofs.YtmbppgjhdcmckaaGreatDoor
namespace Go.Proofs.YtmbppgjhdcmckaaGreatDoor
open Go.RowKit
namespace Dy
open Dp
theorem may_small (s : Bool) (m e : Nat) (h0 : m ≠ 0) (h1 : m < 16) (h2 : e ≤ 1024) (h3 : 0 < e → m % 2 = 1) : Dn.May ⟨s, m, e⟩ :=
 ⟨capD_gt (k := 4) h1 (by decide), h2, fun h => absurd h h0, h3⟩
theorem canon_one (m : Nat) (h0 : m ≠ 0) (h1 : m < 4294967296) : canon 4294967296 m = [(m : Int)] := by
 refine (canon_of (by decide) (fun x hx => ?_) (fun _ => ?_) ?_).symm
 · rw [List.mem_singleton.1 hx]
   omega
 · simp
   exact h0
 · simp [num]
theorem ints_all {w : World} {lo : Nat} {A : Option Addr} {n : Nat} {xs : List Int} (h : Ints w lo w.heap.size .u32 A n xs) : Ints w 0 w.heap.size .u32 A n xs := h.more (Nat.zero_le _) (Nat.le_refl _)
theorem ints_on {w w' : World} {A : Option Addr} {n : Nat} {xs : List Int} (h : Ints w 0 w.heap.size .u32 A n xs) (hb : Below w.heap.size w w') : Ints w' 0 w'.heap.size .u32 A n xs := (h.below hb (Nat.le_refl _)).more (Nat.le_refl _) hb.size
end Dy
end Go.Proofs.YtmbppgjhdcmckaaGreatDoor
namespace Go.Proofs.YtmbppgjhdcmckaaGreatDoor
open Go.RowKit
namespace Dy
open Dp
/-- Blocks that were there are as they were. -/
def Keeps (W w : World) : Prop := ∀ p, p < W.heap.size → w.heap[p]? = W.heap[p]?
end Dy
end Go.Proofs.YtmbppgjhdcmckaaGreatDoor
namespace Go.Proofs.YtmbppgjhdcmckaaGreatDoor
open Go.RowKit
namespace Dy
open Dp
noncomputable def nearX (s1 : Bool) (xs1 : List Int) (e1 : Int) (s2 : Bool) (xs2 : List Int) (e2 : Int) : Dn × Int :=
 if askX s1 xs1 e1 s2 xs2 e2 0 = 0 then nearD (dn s1 xs1 e1) (dn s2 xs2 e2) else (Dn.zero, askX s1 xs1 e1 s2 xs2 e2 0)
set_option maxHeartbeats 6400000 in
set_option maxRecDepth 100000 in
/-- ratio.Near: an error. -/
theorem near_bad (w : World) (s1 s2 : Bool) (A1 A2 : Option Addr) (n1 c1 n2 c2 : Nat) (xs1 xs2 : List Int) (e1 e2 : Int) (h1 : Ints w 0 w.heap.size .u32 A1 n1 xs1) (h2 : Ints w 0 w.heap.size .u32 A2 n2 xs2) (q : Int) (hq : askX s1 xs1 e1 s2 xs2 e2 0 = q) (hq0 : q = 2 ∨ q = 8) :
  Calls Tryz.prog 72 #[.agg #[.bool s1, .slice A1 n1 c1, .int .i64 e1], .agg #[.bool s2, .slice A2 n2 c2, .int .i64 e2]] w (Formed w Dn.zero q) := by
 have HQ := Lib.hid hq
 clear hq
 generalize hw : ((w.alloc (.cells #[.bool s1, .slice A1 n1 c1, .int .i64 e1] 24)).alloc (.cells #[.bool s2, .slice A2 n2 c2, .int .i64 e2] 24)).alloc (.cells #[.bool false, .slice none 0 0, .int .i64 0] 24) = w1
 obtain ⟨D1, D2, D3, b1, l1, l2⟩ := boxes3R w _ _ _ hw
 replace D3 : w1.heap[w.heap.size + 1 + 1]? = some (.cells #[.bool false, .slice none 0 0, .int .i64 0] 24 (0, 0)) := D3
 replace h1 := h1.below b1 (Nat.le_refl _)
 replace h2 := h2.below b1 (Nat.le_refl _)
 obtain ⟨⟨p0, p1, p2⟩, p3, p4, p5⟩ := boxD D1
 obtain ⟨⟨q0, q1, q2⟩, q3, q4, q5⟩ := boxD D2
 go_enter Tryz.func72, Tryz.ntmps72
 go_wp2_with fail
 try clear hw
 refine (asked_all w1 s1 s2 A1 A2 n1 c1 n2 c2 xs1 xs2 e1 e2 (h1.more (Nat.le_refl _) (by omega)) (h2.more (Nat.le_refl _) (by omega)) 0 q HQ.out).mono ?_
 rintro e w2 ⟨rfl, hB⟩
 have ls2 := hB.size
 replace D3 := (hB.block _ (by omega)).trans D3
 replace b1 := b1.trans (hB.mono (by omega))
 clear hB p0 p1 p2 p3 p4 p5 q0 q1 q2 q3 q4 q5 h1 h2 D2 D1
 obtain ⟨⟨z0, z1, z2⟩, z3, z4, z5⟩ := boxD D3
 obtain ⟨U, hU, hX, hbU, hfU, s1', s2'⟩ := zputR D3 (.bool false) (.slice none 0 0) (.int .i64 0)
 rcases hq0 with rfl | rfl
 all_goals
  go_wp2
  try rw [hU]
  clear hU z0 z1 z2 z3 z4 z5
  obtain ⟨⟨z0, z1, z2⟩, _⟩ := boxD hX
  exact bodyPost_ret (v := .tuple #[.agg #[.bool false, .slice none 0 0, .int .i64 0], .int .i64 _]) (by simp [results, Tryz.results72, go_sem, z0, z1, z2]) rfl ⟨none, 0, 0, rfl, Nat.le_refl _, hbU _ _ b1 (by omega), Ints.nil_ ..⟩
/-- ratio.Near. -/
theorem near_all (w : World) (s1 s2 : Bool) (A1 A2 : Option Addr) (n1 c1 n2 c2 : Nat) (xs1 xs2 : List Int) (e1 e2 : Int) (h1 : Ints w 0 w.heap.size .u32 A1 n1 xs1) (h2 : Ints w 0 w.heap.size .u32 A2 n2 xs2) (r : Dn) (code : Int) (h : nearX s1 xs1 e1 s2 xs2 e2 = (r, code)) :
  Calls Tryz.prog 72 #[.agg #[.bool s1, .slice A1 n1 c1, .int .i64 e1], .agg #[.bool s2, .slice A2 n2 c2, .int .i64 e2]] w (Formed w r code) := by
 unfold nearX at h
 split at h
 · rename_i hm
   obtain ⟨m1, m2, hs, hx, k0, k1⟩ := ask_zero hm
   obtain ⟨y1, c1', t1⟩ := dn_ok (dig_ints h1) m1
   obtain ⟨y2, c2', t2⟩ := dn_ok (dig_ints h2) m2
   have hb0 : (dn s2 xs2 e2).m ≠ 0 := fun e => hx (by rw [← c2', e]; rfl)
   have := near_dn w (dn s1 xs1 e1) (dn s2 xs2 e2) s1 rfl y1 y2 hs hb0 A1 A2 n1 c1 n2 c2 (by rw [c1']; exact h1) (by rw [c2']; exact h2) r code h
   rw [t1, t2] at this
   exact this
 · rename_i hm
   injection h with h3 h4
   subst h3 h4
   exact near_bad w s1 s2 A1 A2 n1 c1 n2 c2 xs1 xs2 e1 e2 h1 h2 _ rfl ((ask_two ..).resolve_left hm)
theorem toX_dn {a b : Dn} (ha : a.May) (hb : b.May) (hn : b.neg = false) (h0 : b.m ≠ 0) {k : Nat} (hk : k ≤ 64) (away : Bool) : toX a.neg (canon 4294967296 a.m) a.e b.neg (canon 4294967296 b.m) b.e k away = toD a b k away := by
 unfold toX
 rw [if_pos (ask_ok ha hb hn h0 hk), dn_of, dn_of, Int.toNat_natCast]
theorem nearX_dn {a b : Dn} (ha : a.May) (hb : b.May) (hn : b.neg = false) (h0 : b.m ≠ 0) : nearX a.neg (canon 4294967296 a.m) a.e b.neg (canon 4294967296 b.m) b.e = nearD a b := by
 unfold nearX
 have h := ask_ok ha hb hn h0 (k := 0) (by decide)
 rw [show ((0 : Nat) : Int) = 0 from rfl] at h
 rw [if_pos h, dn_of, dn_of]
end Dy
end Go.Proofs.YtmbppgjhdcmckaaGreatDoor
namespace Go.Proofs.YtmbppgjhdcmckaaGreatDoor
open Go.RowKit
namespace Dy
open Dp
open Classical in
noncomputable def halfX (s1 : Bool) (xs1 : List Int) (e1 : Int) : Dn × Int := if MayD s1 xs1 e1 then halfD (dn s1 xs1 e1) else (Dn.zero, 8)
open Classical in
noncomputable def chkX (s1 : Bool) (xs1 : List Int) (e1 : Int) : Int := if MayD s1 xs1 e1 then 0 else 8
theorem bad_formed {w : World} {e : Ending} {w' : World} (h : Bad w e w') : Formed w Dn.zero 8 e w' := ⟨none, 0, 0, h.1, Nat.le_refl _, h.2, Ints.nil_ ..⟩
theorem Half_all (w : World) (s1 : Bool) (A1 : Option Addr) (n1 c1 : Nat) (xs1 : List Int) (e1 : Int) (h1 : Ints w 0 w.heap.size .u32 A1 n1 xs1) (hT : Tab w) (r : Dn) (code : Int) (h : halfX s1 xs1 e1 = (r, code)) :
  Calls Tryz.prog 82 #[.agg #[.bool s1, .slice A1 n1 c1, .int .i64 e1]] w (Formed w r code) := by
 unfold halfX at h
 split at h
 · rename_i hm
   exact Half_raw w s1 A1 n1 c1 xs1 e1 h1 hm hT r code h
 · rename_i hm
   injection h with h3 h4
   subst h3 h4
   exact (Half_bad w s1 A1 n1 c1 xs1 e1 h1 hm).mono fun _ _ k => bad_formed k
theorem Check_all (w : World) (s1 : Bool) (A1 : Option Addr) (n1 c1 : Nat) (xs1 : List Int) (e1 : Int) (h1 : Ints w 0 w.heap.size .u32 A1 n1 xs1) (k : Int) (h : chkX s1 xs1 e1 = k) :
  Calls Tryz.prog 137 #[.agg #[.bool s1, .slice A1 n1 c1, .int .i64 e1]] w fun e w' => e = .returned (.int .i64 k) ∧ Below w.heap.size w w' := by
 unfold chkX at h
 split at h
 · subst h
   exact Check_ok w 0 w.heap.size s1 A1 n1 c1 xs1 e1 h1 (Nat.le_refl _) (by assumption)
 · subst h
   exact Check_bad w 0 w.heap.size s1 A1 n1 c1 xs1 e1 h1 (Nat.le_refl _) (by assumption)
end Dy
end Go.Proofs.YtmbppgjhdcmckaaGreatDoor
namespace Go.Proofs.YtmbppgjhdcmckaaGreatDoor
namespace Dy
open Dp
/-- The part of so many digits. -/
def partD (k : Nat) : Dn := ⟨false, 1, k⟩
theorem part_may {k : Nat} (h : k ≤ 1024) : (partD k).May := may_small _ _ _ (by decide) (by decide) h (fun _ => rfl)
end Dy
end Go.Proofs.YtmbppgjhdcmckaaGreatDoor
namespace Go.Proofs.YtmbppgjhdcmckaaGreatDoor
namespace Dp
/-- A whole number. -/
def whole (z : Int) : Dn := ⟨decide (z < 0), z.natAbs, 0⟩
theorem whole_may {z : Int} (h0 : -9223372036854775808 ≤ z) (h1 : z ≤ 9223372036854775807) : (whole z).May := by
 refine ⟨capD_gt (k := 64) (show z.natAbs < 2 ^ 64 by omega) (by decide), Nat.zero_le _, fun h => ⟨rfl, ?_⟩, fun h => absurd h (Nat.lt_irrefl 0)⟩
 have h : z.natAbs = 0 := h
 exact decide_eq_false (by omega)
end Dp
end Go.Proofs.YtmbppgjhdcmckaaGreatDoor