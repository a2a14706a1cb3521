/- The law DyadHalves: a walk. -/
import Derived.Test.YtlbkepiflhchdaaDoorDyAl2
namespace Go.Proofs.YtlbkepiflhchdaaDoor
open Go.RowKit
namespace Dy
open Dp
/-- What a law answers. -/
def Yes (w : World) (e : Ending) (w' : World) : Prop := e = .returned (.bool true) ∧ Below w.heap.size w w'
theorem boxOn {w w' : World} {g B : Nat} {x y z : Value} {t : TypeId} (h : w.heap[g]? = some (.cells #[x, y, z] t (0, 0))) (hb : Below B w w') (hB : g < B) : w'.heap[g]? = some (.cells #[x, y, z] t (0, 0)) := (hb.block g hB).trans h
theorem not_great {s : Bool} {xs : List Int} {e : Int} (h : Pa.Dy.great ⟨s, xs, e⟩ = false) : xs.length ≤ 42 ∧ e ≤ 1100 := by
  simp [Pa.Dy.great] at h
  omega
theorem same_res {a b : Dn} {xs ys : List Int} {e f : Int} {s t : Bool} (h : a = b) (h1 : s = a.neg) (h2 : xs = canon 4294967296 a.m) (h3 : e = a.e) (h4 : t = b.neg) (h5 : ys = canon 4294967296 b.m) (h6 : f = b.e) : Pa.Dy.same ⟨s, xs, e⟩ ⟨t, ys, f⟩ = true := by
  subst h h1 h2 h3 h4 h5 h6
  exact Pa.Dy.same_refl _
set_option maxHeartbeats 6400000 in
set_option maxRecDepth 100000 in
theorem halves_walk (w : World) (s : Bool) (A : Option Addr) (n c : Nat) (xs : List Int) (e : Int) (hX : Ints w 0 w.heap.size .u32 A n xs) (hT : Tab w) :
    Calls Tryd.prog 5 #[.agg #[.bool s, .slice A n c, .int .i64 e]] w (Yes w) := by
  have hl := Lib.hid hX.len
  generalize hw1 : w.alloc (.cells #[.bool s, .slice A n c, .int .i64 e] 24) = w1
  have a1 : Amid w w1 := by rw [← hw1]; exact Amid.alloc ⟨Below.refl _ _, hT⟩ _
  have b1 : w1.heap[w.heap.size]? = some (.cells #[.bool s, .slice A n c, .int .i64 e] 24 (0, 0)) := by rw [← hw1]; exact heap_alloc_last _ _
  have s1 : w.heap.size < w1.heap.size := by rw [← hw1]; simp
  have i1 : Ints w1 0 w1.heap.size .u32 A n xs := by rw [← hw1]; exact (hX.alloc (Nat.le_refl _) _).more (Nat.le_refl _) (by simp)
  have hg := hT.lt
  go_enter Tryd.func5, Tryd.ntmps5
  go_wp2_with fail
  refine (alive_any w1 a1.tab).mono ?_
  rintro e' w2 ⟨rfl, hB2⟩
  have a2 := a1.on hB2
  have b2 := boxOn b1 hB2 s1
  have s2 := Nat.lt_of_lt_of_le s1 hB2.size
  have i2 := ints_on i1 hB2
  clear hB2 a1 b1 s1 i1 hw1
  obtain ⟨⟨p0, p1, p2⟩, p3, p4, p5⟩ := boxD b2
  go_wp2_with fail
  obtain ⟨gr, hgr⟩ : ∃ gr, Pa.Dy.great ⟨s, xs, e⟩ = gr := ⟨_, rfl⟩
  refine (Pa.rGreat_any w2 s A n c xs e hl.out gr hgr).mono ?_
  rintro e' w3 ⟨rfl, hB3⟩
  have a3 := a2.on hB3
  have b3 := boxOn b2 hB3 s2
  have s3 := Nat.lt_of_lt_of_le s2 hB3.size
  have i3 := ints_on i2 hB3
  clear hB3 a2 b2 s2 i2 p0 p1 p2 p3 p4 p5
  obtain ⟨⟨p0, p1, p2⟩, p3, p4, p5⟩ := boxD b3
  cases gr
  · obtain ⟨hn, he⟩ := not_great hgr
    clear hgr
    rw [hl.out] at hn
    by_cases hm : MayD s xs e
    · obtain ⟨y1, y2, y3⟩ := dn_ok (dig_ints i3) hm
      obtain ⟨r, code, hr⟩ : ∃ r code, halfD (dn s xs e) = (r, code) := ⟨_, _, rfl⟩
      have HR := Lib.hid hr
      have HM := Lib.hid hm
      have HY := Lib.hid y1
      have HY2 := Lib.hid y2
      have HY3 := Lib.hid y3
      clear hr hm y1 y2 y3
      go_wp2_with fail
      refine (Half_raw w3 s A n c xs e i3 HM.out a3.tab r code HR.out).mono ?_
      rintro e' w4 ⟨A4, n4, c4, rfl, hc4, hB4, hI4⟩
      have a4 := a3.on hB4
      have b4 := boxOn b3 hB4 s3
      have s4 := Nat.lt_of_lt_of_le s3 hB4.size
      have i4 := ints_on i3 hB4
      have j4 := ints_all hI4
      clear hB4 hI4 a3 b3 s3 i3 p0 p1 p2 p3 p4 p5
      have hW := heap_alloc_last w4 (.cells #[.bool r.neg, .slice A4 n4 c4, .int .i64 r.e] 24)
      have b5 := boxOn b4 ((Below.refl _ w4).alloc (Nat.le_refl _) (.cells #[.bool r.neg, .slice A4 n4 c4, .int .i64 r.e] 24)) s4
      have a5 := a4.alloc (.cells #[.bool r.neg, .slice A4 n4 c4, .int .i64 r.e] 24)
      have i5 := ints_on i4 ((Below.refl _ w4).alloc (Nat.le_refl _) (.cells #[.bool r.neg, .slice A4 n4 c4, .int .i64 r.e] 24))
      have j5 := ints_on j4 ((Below.refl _ w4).alloc (Nat.le_refl _) (.cells #[.bool r.neg, .slice A4 n4 c4, .int .i64 r.e] 24))
      have s5 : w4.heap.size < (w4.alloc (.cells #[.bool r.neg, .slice A4 n4 c4, .int .i64 r.e] 24)).heap.size := by simp
      have s5' : w.heap.size < (w4.alloc (.cells #[.bool r.neg, .slice A4 n4 c4, .int .i64 r.e] 24)).heap.size := by simp; omega
      generalize hw5 : w4.alloc (.cells #[.bool r.neg, .slice A4 n4 c4, .int .i64 r.e] 24) = w5 at *
      clear a4 b4 i4 j4
      obtain ⟨⟨p0, p1, p2⟩, p3, p4, p5⟩ := boxD b5
      obtain ⟨⟨q0, q1, q2⟩, q3, q4, q5⟩ := boxD hW
      by_cases h0 : code = 0
      · subst h0
        have hmr : r.May := by have := half_may (dn s xs e); rw [HR.out] at this; exact this
        have hmd := dn_may hmr
        obtain ⟨t1, t2⟩ := half_twice HY.out (by rw [HR.out])
        rw [HR.out] at t1 t2
        have T1 := Lib.hid t1
        have T2 := Lib.hid t2
        have HMR := Lib.hid hmr
        have HMD := Lib.hid hmd
        clear t1 t2 hmr hmd
        go_wp2_with fail
        refine (Add_ok w5 r r HMR.out HMR.out A4 n4 c4 j5 A4 n4 c4 j5 a5.tab (dn s xs e) 0 T1.out).mono ?_
        rintro e' w6 ⟨A6, n6, c6, rfl, hc6, hB6, hI6⟩
        have a6 := a5.on hB6
        have b6 := boxOn b5 hB6 s5'
        have h6 := boxOn hW hB6 s5
        have s6' := Nat.lt_of_lt_of_le s5' hB6.size
        have s6 := Nat.lt_of_lt_of_le s5 hB6.size
        have i6 := ints_on i5 hB6
        have j6 := ints_on j5 hB6
        have k6 := ints_all hI6
        clear hB6 hI6 a5 b5 hW s5 s5' i5 j5 hw5 p0 p1 p2 p3 p4 p5 q0 q1 q2 q3 q4 q5
        have hBL := (Below.refl w6.heap.size w6).alloc (Nat.le_refl _) (.cells #[.bool (dn s xs e).neg, .slice A6 n6 c6, .int .i64 (dn s xs e).e] 24)
        have hV := heap_alloc_last w6 (.cells #[.bool (dn s xs e).neg, .slice A6 n6 c6, .int .i64 (dn s xs e).e] 24)
        have a7 := a6.on hBL
        have b7 := boxOn b6 hBL s6'
        have h7 := boxOn h6 hBL s6
        have s7' := Nat.lt_of_lt_of_le s6' hBL.size
        have s7 := Nat.lt_of_lt_of_le s6 hBL.size
        have s7v : w6.heap.size < (w6.alloc (.cells #[.bool (dn s xs e).neg, .slice A6 n6 c6, .int .i64 (dn s xs e).e] 24)).heap.size := by simp
        have i7 := ints_on i6 hBL
        have j7 := ints_on j6 hBL
        have k7 := ints_on k6 hBL
        generalize hw7 : w6.alloc (.cells #[.bool (dn s xs e).neg, .slice A6 n6 c6, .int .i64 (dn s xs e).e] 24) = w7 at *
        clear hBL a6 b6 h6 s6 s6' i6 j6 k6
        obtain ⟨⟨p0, p1, p2⟩, p3, p4, p5⟩ := boxD b7
        obtain ⟨⟨q0, q1, q2⟩, q3, q4, q5⟩ := boxD h7
        go_wp2_with fail
        refine (Sub_raw w7 s r.neg A A4 n c n4 c4 xs (canon 4294967296 r.m) e r.e i7 j7 HM.out HMD.out a7.tab r 0 (by rw [dn_of]; exact T2.out)).mono ?_
        rintro e' w8 ⟨A8, n8, c8, rfl, hc8, hB8, hI8⟩
        have a8 := a7.on hB8
        have b8 := boxOn b7 hB8 s7'
        have h8 := boxOn h7 hB8 s7
        have v8 := boxOn hV hB8 s7v
        have s8' := Nat.lt_of_lt_of_le s7' hB8.size
        have s8 := Nat.lt_of_lt_of_le s7 hB8.size
        have s8v := Nat.lt_of_lt_of_le s7v hB8.size
        have i8 := ints_on i7 hB8
        have j8 := ints_on j7 hB8
        have k8 := ints_on k7 hB8
        have l8 := ints_all hI8
        clear hB8 hI8 a7 b7 h7 hV s7 s7' s7v i7 j7 k7 hw7 p0 p1 p2 p3 p4 p5 q0 q1 q2 q3 q4 q5
        have hBL := (Below.refl w8.heap.size w8).alloc (Nat.le_refl _) (.cells #[.bool r.neg, .slice A8 n8 c8, .int .i64 r.e] 24)
        have hU := heap_alloc_last w8 (.cells #[.bool r.neg, .slice A8 n8 c8, .int .i64 r.e] 24)
        have a9 := a8.on hBL
        have b9 := boxOn b8 hBL s8'
        have h9 := boxOn h8 hBL s8
        have v9 := boxOn v8 hBL s8v
        have s9' := Nat.lt_of_lt_of_le s8' hBL.size
        have s9 := Nat.lt_of_lt_of_le s8 hBL.size
        have s9v := Nat.lt_of_lt_of_le s8v hBL.size
        have s9u : w8.heap.size < (w8.alloc (.cells #[.bool r.neg, .slice A8 n8 c8, .int .i64 r.e] 24)).heap.size := by simp
        have i9 := ints_on i8 hBL
        have j9 := ints_on j8 hBL
        have k9 := ints_on k8 hBL
        have l9 := ints_on l8 hBL
        generalize hw9 : w8.alloc (.cells #[.bool r.neg, .slice A8 n8 c8, .int .i64 r.e] 24) = w9 at *
        clear hBL a8 b8 h8 v8 s8 s8' s8v i8 j8 k8 l8
        obtain ⟨⟨p0, p1, p2⟩, p3, p4, p5⟩ := boxD b9
        obtain ⟨⟨q0, q1, q2⟩, q3, q4, q5⟩ := boxD v9
        go_wp2_with fail
        refine (Pa.dyadSame_any w9 _ _ _ _ _ _ _ _ _ _ _ _ k9 i9 true (same_res (a := dn s xs e) (b := dn s xs e) rfl rfl rfl rfl rfl HY2.out.symm HY3.out.symm)).mono ?_
        rintro e' w10 ⟨rfl, hB10⟩
        have a10 := a9.on hB10
        have h10 := boxOn h9 hB10 s9
        have u10 := boxOn hU hB10 s9u
        have s10 := Nat.lt_of_lt_of_le s9 hB10.size
        have j10 := ints_on j9 hB10
        have l10 := ints_on l9 hB10
        clear hB10 a9 b9 h9 v9 hU s9 s9' s9v s9u i9 j9 k9 l9 hw9 p0 p1 p2 p3 p4 p5 q0 q1 q2 q3 q4 q5
        obtain ⟨⟨p0, p1, p2⟩, p3, p4, p5⟩ := boxD u10
        obtain ⟨⟨q0, q1, q2⟩, q3, q4, q5⟩ := boxD h10
        go_wp2_with fail
        refine (Pa.dyadSame_any w10 _ _ _ _ _ _ _ _ _ _ _ _ l10 j10 true (same_res (a := r) (b := r) rfl rfl rfl rfl rfl rfl rfl)).mono ?_
        rintro e' w11 ⟨rfl, hB11⟩
        have a11 := a10.on hB11
        have h11 := boxOn h10 hB11 s10
        have j11 := ints_on j10 hB11
        clear hB11 a10 h10 u10 s10 j10 l10 p0 p1 p2 p3 p4 p5 q0 q1 q2 q3 q4 q5
        obtain ⟨⟨q0, q1, q2⟩, q3, q4, q5⟩ := boxD h11
        go_wp2_with fail
        refine (Check_ok w11 0 w11.heap.size r.neg A4 n4 c4 (canon 4294967296 r.m) r.e j11 (Nat.le_refl _) HMD.out).mono ?_
        rintro e' w12 ⟨rfl, hB12⟩
        have a12 := a11.on hB12
        go_wp2
        go_ret
        exact ⟨rfl, a12.below⟩
      · have hov := half_over HY.out (by rw [HR.out]; exact h0)
        have hc : code = 10 := by have h1 := hov.1; rw [HR.out] at h1; exact congrArg Prod.snd h1
        have he' : e = 1024 := by have h1 := HY3.out; rw [hov.2] at h1; exact h1.symm
        subst hc he'
        have HOV := Lib.hid hov
        clear hov
        go_wp2_with fail
        refine (Check_ok w5 0 w5.heap.size s A n c xs 1024 i5 (Nat.le_refl _) HM.out).mono ?_
        rintro e' w6 ⟨rfl, hB6⟩
        have a6 := a5.on hB6
        have b6 := boxOn b5 hB6 s5'
        clear hB6 p0 p1 p2 p3 p4 p5 q0 q1 q2 q3 q4 q5
        obtain ⟨⟨p0, p1, p2⟩, p3, p4, p5⟩ := boxD b6
        go_wp2
        go_ret
        exact ⟨rfl, a6.below⟩
    · go_wp2_with fail
      refine (Half_bad w3 s A n c xs e i3 hm).mono ?_
      rintro e' w4 ⟨rfl, hB4⟩
      have a4 := a3.on hB4
      have b4 := boxOn b3 hB4 s3
      have s4 := Nat.lt_of_lt_of_le s3 hB4.size
      have i4 := ints_on i3 hB4
      have HM := Lib.hid hm
      clear hB4 a3 b3 s3 i3 p0 p1 p2 p3 p4 p5 hm
      have hBL := (Below.refl w4.heap.size w4).alloc (Nat.le_refl _) (.cells #[.bool false, .slice none 0 0, .int .i64 0] 24)
      have b5 := boxOn b4 hBL s4
      have a5 := a4.on hBL
      have i5 := ints_on i4 hBL
      clear hBL a4 b4 i4
      obtain ⟨⟨p0, p1, p2⟩, p3, p4, p5⟩ := boxD b5
      go_wp2_with fail
      refine (Check_bad _ 0 _ s A n c xs e i5 (Nat.le_refl _) HM.out).mono ?_
      rintro e' w6 ⟨rfl, hB6⟩
      have a6 := a5.on hB6
      go_wp2
      go_ret
      exact ⟨rfl, a6.below⟩
  · clear hgr
    go_wp2
    go_ret
    exact ⟨rfl, a3.below⟩
end Dy
end Go.Proofs.YtlbkepiflhchdaaDoor
