/- push.none, push.faulty, push.Check: walks (printed by a program of mine). -/
/- Shares: what is kept, sent and taken, in numbers. No program in sight. -/
/- push.both: a walk. -/
/- push.both$1: a walk. -/
/- push.both$1, an error: walks. -/
/- push.both$1: whatever comes of the two calls; small laws for push.Take. -/
/- Shares' means, and what they lie between, in numbers. No program in sight. -/
/- The laws of shares: what lies between two values. No program in sight. -/
import Derived.Test.YtbbnbgllgomolaaDoorBt08
import Derived.Test.YtbbnbgllgomolaaDoorBt09
import Derived.Test.YtbbnbgllgomolaaDoorBt07
import Derived.Test.YtbbnbgllgomolaaDoorBt12
import Derived.Test.YtbbnbgllgomolaaDoorBt13
import Derived.Test.YtbbnbgllgomolaaDoorBt03
import Derived.Test.YtbbnbgllgomolaaDoorBt10
namespace Go.Proofs.YtbbnbgllgomolaaDoor
open Go.RowKit
namespace Ma
open Dp Dy
/-- A share that may be. -/
def Mv.share (m : Mv) : Prop := m.may ∧ m.W.s = false ∧ (m.W.n = 0 → m.S.n = 0)
open Classical in
noncomputable def badS (ms : List Mv) : Bool := decide (∃ m ∈ ms, ¬ m.share)
open Classical in
theorem badS_yes {ms : List Mv} {m : Mv} (hm : m ∈ ms) (h : ¬ m.share) : badS ms = true := by
 unfold badS
 exact decide_eq_true ⟨m, hm, h⟩
open Classical in
theorem badS_no {ms : List Mv} (h : ∀ m ∈ ms, m.share) : badS ms = false := by
 unfold badS
 exact decide_eq_false fun ⟨m, hm, hn⟩ => hn (h m hm)
set_option maxHeartbeats 3200000 in
/-- push.none. -/
theorem none_any (w : World) (s : Bool) (A : Option Addr) (n c : Nat) (e : Int) (b : Bool) (hb : decide (n = 0) = b) :
  Calls Tryd.prog 35 #[.agg #[.bool s, .slice A n c, .int .i64 e]] w fun e w' => e = .returned (.bool b) ∧ Below w.heap.size w w' := by
 have fin := (Below.refl w.heap.size w).alloc (Nat.le_refl _) (.cells #[.bool s, .slice A n c, .int .i64 e] 24)
 have B1 := heap_alloc_last w (.cells #[.bool s, .slice A n c, .int .i64 e] 24)
 generalize hw : w.alloc (.cells #[.bool s, .slice A n c, .int .i64 e] 24) = w1 at *
 obtain ⟨⟨p1, p2, p3⟩, p4, p5, p6⟩ := boxD B1
 by_cases h : n = 0
 · have hb' : b = true := by rw [← hb]; exact decide_eq_true h
   subst hb'
   subst h
   go_enter Tryd.func35, Tryd.ntmps35
   go_wp2
   go_ret
   exact ⟨rfl, fin⟩
 · have hb' : b = false := by rw [← hb]; exact decide_eq_false h
   subst hb'
   have hxb : ((n : Int) == 0) = false := by
    have : (n : Int) ≠ 0 := by omega
    simpa using this
   go_enter Tryd.func35, Tryd.ntmps35
   go_wp2
   go_ret
   exact ⟨rfl, fin⟩
set_option maxHeartbeats 12800000 in
set_option maxRecDepth 100000 in
/-- push.faulty. -/
theorem faulty_any (w : World) (A : Option Addr) (n c : Nat) (ms : List Mv) (hL : LMs w 0 w.heap.size A n ms) (hn : n ≤ 4096) (r : Bool) (hr : badS ms = r) :
  Calls Tryd.prog 34 #[.slice A n c] w fun e w' => e = .returned (.bool r) ∧ Below w.heap.size w w' := by
 have HL := Lib.hid hL.len
 have HRS := Lib.hid hr
 clear hr
 obtain ⟨i0, hi0, hz0, hz1, hz2⟩ := info_parts infoM
 go_enter Tryd.func34, Tryd.ntmps34
 go_wp2
 go_loopw [4, 7] (fun _ iv wr => ∃ i : Nat, iv = .int .i64 i ∧ i ≤ n ∧ Below w.heap.size w wr ∧ Hid (∀ j (h : j < ms.length), j < i → ms[j].share)) (fun _ iv _ => n - (intOf iv).toNat)
 case atStart => exact ⟨0, rfl, Nat.zero_le _, Below.refl _ _, Lib.hid fun j h hj => absurd hj (Nat.not_lt_zero _)⟩
 case round =>
  obtain ⟨i, rfl, hi1, hb, hall⟩ := hrel
  have hLr := hL.below hb (Nat.le_refl _)
  by_cases hlt : i < n
  · have hi2 : i < ms.length := by rw [HL.out]; exact hlt
    obtain ⟨b, off, hA, h1, h2, hc⟩ := hLr.row (by omega)
    have hci := hc i hi2
    have hri := hLr.rows i hi2
    obtain ⟨d, hd⟩ : ∃ d, ms[i] = d := ⟨_, rfl⟩
    rw [hd] at hci hri
    have HD := Lib.hid hd
    subst hA
    clear hd hc hLr
    have lb := hb.size
    obtain ⟨k0, k1, k2, k3, k4, k5, k6, k7, k8, k9, k10, k11⟩ := hci
    have hwr : IntKind.i64.wrap ((i : Int) + 1) = ((i + 1 : Nat) : Int) := by rw [IntKind.wrap_i64]; omega
    have hBL := (Below.refl wr.heap.size wr).alloc (Nat.le_refl _) (.cells #[.bool d.S.s, .slice d.S.A d.S.n d.S.c, .int .i64 d.S.e, .bool d.W.s, .slice d.W.A d.W.n d.W.c, .int .i64 d.W.e, .bool d.C.s, .slice d.C.A d.C.n d.C.c, .int .i64 d.C.e, .bool d.A.s, .slice d.A.A d.A.n d.A.c, .int .i64 d.A.e] 26)
    have hM2 : MBox (wr.alloc (.cells #[.bool d.S.s, .slice d.S.A d.S.n d.S.c, .int .i64 d.S.e, .bool d.W.s, .slice d.W.A d.W.n d.W.c, .int .i64 d.W.e, .bool d.C.s, .slice d.C.A d.C.n d.C.c, .int .i64 d.C.e, .bool d.A.s, .slice d.A.A d.A.n d.A.c, .int .i64 d.A.e] 26)) wr.heap.size d := heap_alloc_last _ _
    have hr2 : MRows (wr.alloc (.cells #[.bool d.S.s, .slice d.S.A d.S.n d.S.c, .int .i64 d.S.e, .bool d.W.s, .slice d.W.A d.W.n d.W.c, .int .i64 d.W.e, .bool d.C.s, .slice d.C.A d.C.n d.C.c, .int .i64 d.C.e, .bool d.A.s, .slice d.A.A d.A.n d.A.c, .int .i64 d.A.e] 26)) 0 (wr.alloc (.cells #[.bool d.S.s, .slice d.S.A d.S.n d.S.c, .int .i64 d.S.e, .bool d.W.s, .slice d.W.A d.W.n d.W.c, .int .i64 d.W.e, .bool d.C.s, .slice d.C.A d.C.n d.C.c, .int .i64 d.C.e, .bool d.A.s, .slice d.A.A d.A.n d.A.c, .int .i64 d.A.e] 26)).heap.size d := (hri.below hBL (by omega)).more (Nat.le_refl _) (by have := hBL.size; omega)
    have l2 : wr.heap.size < (wr.alloc (.cells #[.bool d.S.s, .slice d.S.A d.S.n d.S.c, .int .i64 d.S.e, .bool d.W.s, .slice d.W.A d.W.n d.W.c, .int .i64 d.W.e, .bool d.C.s, .slice d.C.A d.C.n d.C.c, .int .i64 d.C.e, .bool d.A.s, .slice d.A.A d.A.n d.A.c, .int .i64 d.A.e] 26)).heap.size := by simp
    generalize hw2 : wr.alloc (.cells #[.bool d.S.s, .slice d.S.A d.S.n d.S.c, .int .i64 d.S.e, .bool d.W.s, .slice d.W.A d.W.n d.W.c, .int .i64 d.W.e, .bool d.C.s, .slice d.C.A d.C.n d.C.c, .int .i64 d.C.e, .bool d.A.s, .slice d.A.A d.A.n d.A.c, .int .i64 d.A.e] 26) = w2 at *
    obtain ⟨⟨y0, y1, y2, y3, y4, y5, y6, y7, y8, y9, y10, y11⟩, yf⟩ := MBox.cells hM2
    obtain ⟨q, hq⟩ : ∃ q, chkM d = q := ⟨_, rfl⟩
    go_wp2_with fail
    refine (MCheck_any w2 d hr2 q hq).mono ?_
    rintro e w3 ⟨rfl, hB⟩
    clear k0 k1 k2 k3 k4 k5 k6 k7 k8 k9 k10 k11 y0 y1 y2 y3 y4 y5 y6 y7 y8 y9 y10 y11 yf hw2
    have hM3 : MBox w3 wr.heap.size d := box_on hM2 hB l2
    have b3 : Below w.heap.size w w3 := hb.trans ((lz hBL hB).mono lb)
    have l3 := hB.size
    clear hB hBL hM2 hr2
    by_cases hm : d.may
    · have hq0 : q = 0 := hq.symm.trans (chk_may hm)
      subst hq0
      obtain ⟨⟨y0, y1, y2, y3, y4, y5, y6, y7, y8, y9, y10, y11⟩, yf⟩ := MBox.cells hM3
      cases hs : d.W.s
      · rw [hs] at y3
        have HS := Lib.hid hs
        clear hs
        by_cases hn0 : d.W.n = 0
        · have HN := Lib.hid hn0
          clear hn0
          go_wp2_with fail
          refine (none_any w3 false d.W.A d.W.n d.W.c d.W.e true (decide_eq_true HN.out)).mono ?_
          rintro e w4 ⟨rfl, hB⟩
          have hM4 : MBox w4 wr.heap.size d := box_on hM3 hB (by omega)
          have b4 := b3.trans (hB.mono b3.size)
          clear y0 y1 y2 y3 y4 y5 y6 y7 y8 y9 y10 y11 yf hB
          obtain ⟨⟨y0, y1, y2, y3, y4, y5, y6, y7, y8, y9, y10, y11⟩, yf⟩ := MBox.cells hM4
          by_cases hn1 : d.S.n = 0
          · have HN1 := Lib.hid hn1
            clear hn1
            go_wp2_with fail
            refine (none_any w4 d.S.s d.S.A d.S.n d.S.c d.S.e true (decide_eq_true HN1.out)).mono ?_
            rintro e w5 ⟨rfl, hB⟩
            have b5 := b4.trans (hB.mono b4.size)
            clear y0 y1 y2 y3 y4 y5 y6 y7 y8 y9 y10 y11 yf hB
            go_wp2
            go_roundw
            case rel => exact ⟨i + 1, by first | rfl | (congr 1; omega) | go_num, by omega, b5, Lib.hid fun j hj hji => by
             by_cases e : j = i
             · subst e
               rw [HD.out]
               exact ⟨hm, HS.out, fun _ => HN1.out⟩
             · exact hall.out j hj (by omega)⟩
            case measure => first | (simp [intOf]; done) | (simp [intOf]; omega)
          · have HN1 := Lib.hid hn1
            clear hn1
            go_wp2_with fail
            refine (none_any w4 d.S.s d.S.A d.S.n d.S.c d.S.e false (decide_eq_false HN1.out)).mono ?_
            rintro e w5 ⟨rfl, hB⟩
            have b5 := b4.trans (hB.mono b4.size)
            have hr1 : r = true := by rw [← HRS.out]; exact badS_yes (List.getElem_mem hi2) (by rw [HD.out]; exact fun h => HN1.out (h.2.2 HN.out))
            subst hr1
            clear y0 y1 y2 y3 y4 y5 y6 y7 y8 y9 y10 y11 yf hB
            go_wp2
            go_ret
            exact ⟨rfl, b5⟩
        · have HN := Lib.hid hn0
          clear hn0
          go_wp2_with fail
          refine (none_any w3 false d.W.A d.W.n d.W.c d.W.e false (decide_eq_false HN.out)).mono ?_
          rintro e w4 ⟨rfl, hB⟩
          have b4 := b3.trans (hB.mono b3.size)
          clear y0 y1 y2 y3 y4 y5 y6 y7 y8 y9 y10 y11 yf hB
          go_wp2
          go_roundw
          case rel => exact ⟨i + 1, by first | rfl | (congr 1; omega) | go_num, by omega, b4, Lib.hid fun j hj hji => by
           by_cases e : j = i
           · subst e
             rw [HD.out]
             exact ⟨hm, HS.out, fun h => absurd h HN.out⟩
           · exact hall.out j hj (by omega)⟩
          case measure => first | (simp [intOf]; done) | (simp [intOf]; omega)
      · have hr1 : r = true := by rw [← HRS.out]; exact badS_yes (List.getElem_mem hi2) (by rw [HD.out]; exact fun h => by have := h.2.1; rw [hs] at this; cases this)
        subst hr1
        rw [hs] at y3
        clear hs
        go_wp2
        go_ret
        exact ⟨rfl, b3⟩
    · have hq0 : q = 8 := hq.symm.trans (chk_not hm)
      subst hq0
      have hr1 : r = true := by rw [← HRS.out]; exact badS_yes (List.getElem_mem hi2) (by rw [HD.out]; exact fun h => hm h.1)
      subst hr1
      go_wp2
      go_ret
      exact ⟨rfl, b3⟩
  · have hr0 : r = false := by
      rw [← HRS.out]
      refine badS_no fun m hm => ?_
      obtain ⟨j, hj, rfl⟩ := List.getElem_of_mem hm
      exact hall.out j hj (by have := HL.out; omega)
    subst hr0
    go_wp2
    go_ret
    exact ⟨rfl, hb⟩
/-- A list of one mass, in a block of its own. -/
theorem lm_one {w : World} {g : Nat} {m : Mv} (h : MBox w g m) (hr : MRows w 0 w.heap.size m) : LMs w 0 w.heap.size (some ⟨g, 0, none⟩) 1 [m] := by
 refine ⟨rfl, by decide, fun _ => ⟨g, 0, rfl, Nat.zero_le _, (Array.getElem?_eq_some_iff.1 h).1, fun j hj => ?_⟩, fun j hj => ?_⟩
 · obtain rfl : j = 0 := by simp at hj; omega
   obtain ⟨⟨y0, y1, y2, y3, y4, y5, y6, y7, y8, y9, y10, y11⟩, _⟩ := MBox.cells h
   exact ⟨y0, y1, y2, y3, y4, y5, y6, y7, y8, y9, y10, y11⟩
 · obtain rfl : j = 0 := by simp at hj; omega
   exact hr
set_option maxHeartbeats 12800000 in
set_option maxRecDepth 100000 in
/-- push.Check. -/
theorem PCheck_any (w : World) (m : Mv) (hR : MRows w 0 w.heap.size m) (b : Bool) (hb : badS [m] = b) :
  Calls Tryd.prog 16 #[.agg #[.bool m.S.s, .slice m.S.A m.S.n m.S.c, .int .i64 m.S.e, .bool m.W.s, .slice m.W.A m.W.n m.W.c, .int .i64 m.W.e, .bool m.C.s, .slice m.C.A m.C.n m.C.c, .int .i64 m.C.e, .bool m.A.s, .slice m.A.A m.A.n m.A.c, .int .i64 m.A.e]] w fun e w' => e = .returned (.int .i64 (if b then 8 else 0)) ∧ Below w.heap.size w w' := by
 have HB := Lib.hid hb
 clear hb
 have M0 : MBox (w.alloc (.cells #[.bool m.S.s, .slice m.S.A m.S.n m.S.c, .int .i64 m.S.e, .bool m.W.s, .slice m.W.A m.W.n m.W.c, .int .i64 m.W.e, .bool m.C.s, .slice m.C.A m.C.n m.C.c, .int .i64 m.C.e, .bool m.A.s, .slice m.A.A m.A.n m.A.c, .int .i64 m.A.e] 26)) w.heap.size m := heap_alloc_last _ _
 obtain ⟨⟨y0, y1, y2, y3, y4, y5, y6, y7, y8, y9, y10, y11⟩, yf⟩ := MBox.cells M0
 generalize hw : (w.alloc (.cells #[.bool m.S.s, .slice m.S.A m.S.n m.S.c, .int .i64 m.S.e, .bool m.W.s, .slice m.W.A m.W.n m.W.c, .int .i64 m.W.e, .bool m.C.s, .slice m.C.A m.C.n m.C.c, .int .i64 m.C.e, .bool m.A.s, .slice m.A.A m.A.n m.A.c, .int .i64 m.A.e] 26)).alloc (.cells #[.bool m.S.s, .slice m.S.A m.S.n m.S.c, .int .i64 m.S.e, .bool m.W.s, .slice m.W.A m.W.n m.W.c, .int .i64 m.W.e, .bool m.C.s, .slice m.C.A m.C.n m.C.c, .int .i64 m.C.e, .bool m.A.s, .slice m.A.A m.A.n m.A.c, .int .i64 m.A.e] 26) = w1
 obtain ⟨M1, M2, b1, l1, l2⟩ := boxes2 w _ _ hw
 replace M2 : MBox w1 (w.heap.size + 1) m := M2
 have hR1 : MRows w1 0 w1.heap.size m := (hR.below b1 (Nat.le_refl _)).more (Nat.le_refl _) (by omega)
 clear M1 M0
 go_enter Tryd.func16, Tryd.ntmps16
 go_wp2_with fail
 try clear hw
 refine (faulty_any w1 (some ⟨w.heap.size + 1, 0, none⟩) 1 1 [m] (lm_one M2 hR1) (by decide) b HB.out).mono ?_
 rintro e w2 ⟨rfl, hB⟩
 have b2 := b1.trans (hB.mono (by omega))
 clear y0 y1 y2 y3 y4 y5 y6 y7 y8 y9 y10 y11 yf hB
 cases b
 · go_wp2
   go_ret
   exact ⟨rfl, b2⟩
 · go_wp2
   go_ret
   exact ⟨rfl, b2⟩
end Ma
end Go.Proofs.YtbbnbgllgomolaaDoor
namespace Go.Proofs.YtbbnbgllgomolaaDoor
open Go.RowKit
namespace Ma
open Dp Dy
open Classical in
/-- What is kept and sent of a share. -/
noncomputable def giveM (m : Mv) : ((Nat → Dn) × (Nat → Dn)) × Int :=
 if badS [m] = true then ((zR, zR), 8) else if m.W.n = 0 then ((zR, zR), 6) else splitM m
open Classical in
/-- What comes of taking. -/
noncomputable def takeM (m s : Mv) : (Nat → Dn) × Int :=
 if badS [m, s] = true then (zR, 8) else
  if (xAdd m s 0).2 = 0 ∧ (xAdd m s 1).2 = 0 then (fun x => if x = 0 then (xAdd m s 0).1 else if x = 1 then (xAdd m s 1).1 else dnM m x, 0) else (zR, 10)
theorem badS_one {m : Mv} : badS [m] = false ↔ m.share := by
 constructor
 · intro h
   exact Classical.byContradiction fun hn => by rw [badS_yes (List.mem_singleton.2 rfl) hn] at h; cases h
 · intro h
   exact badS_no fun x hx => by rw [List.mem_singleton.1 hx]; exact h
theorem badS_two {m s : Mv} : badS [m, s] = false ↔ m.share ∧ s.share := by
 constructor
 · intro h
   constructor
   · exact Classical.byContradiction fun hn => by rw [badS_yes (m := m) (by simp) hn] at h; cases h
   · exact Classical.byContradiction fun hn => by rw [badS_yes (m := s) (by simp) hn] at h; cases h
 · rintro ⟨h1, h2⟩
   refine badS_no fun x hx => ?_
   simp only [List.mem_cons, List.not_mem_nil, or_false] at hx
   rcases hx with rfl | rfl
   · exact h1
   · exact h2
theorem give_may {w : World} {lo hi : Nat} {m : Mv} (hR : MRows w lo hi m) {kR sR : Nat → Dn} {code : Int} (h : giveM m = ((kR, sR), code)) : MayR kR ∧ MayR sR := by
 unfold giveM at h
 split at h
 · injection h with h1 h2
   injection h1 with h1 h3
   subst h1 h3
   exact ⟨zR_may, zR_may⟩
 · split at h
   · injection h with h1 h2
     injection h1 with h1 h3
     subst h1 h3
     exact ⟨zR_may, zR_may⟩
   · exact splitM_may hR h
theorem take_may {w : World} {lo hi : Nat} {m s : Mv} (hR : MRows w lo hi m) {T : Nat → Dn} {code : Int} (h : takeM m s = (T, code)) : MayR T := by
 unfold takeM at h
 split at h
 · injection h with h1 h2
   subst h1
   exact zR_may
 · rename_i hb
   have hs := (badS_two.1 (by simpa using hb)).1
   split at h
   · injection h with h1 h2
     subst h1
     exact four (addX_may ..) (addX_may ..) (dnM_may hR hs.1 2 (by decide)) (dnM_may hR hs.1 3 (by decide))
   · injection h with h1 h2
     subst h1
     exact zR_may
/-- A share of which S and W are taken alone. -/
def cutM (s : Mv) : Mv := ⟨s.S, s.W, ZM.C, ZM.A⟩
theorem cutM_may {s : Mv} (h : s.may) : (cutM s).may := four (h 0 (by decide)) (h 1 (by decide)) (Is.zero.may zero_may) (Is.zero.may zero_may)
theorem cutM_rows {w : World} {lo hi : Nat} {s : Mv} (h : MRows w lo hi s) : MRows w lo hi (cutM s) := ⟨h.S, h.W, Ints.nil_ .., Ints.nil_ ..⟩
end Ma
end Go.Proofs.YtbbnbgllgomolaaDoor
namespace Go.Proofs.YtbbnbgllgomolaaDoor
open Go.RowKit
namespace Dy
open Dp
set_option maxHeartbeats 3200000 in
/-- push.both: what it captures. -/
theorem both_any (w : World) (s : Bool) (A : Option Addr) (n c : Nat) (e q : Int) :
  Calls Tryd.prog 41 #[.agg #[.bool s, .slice A n c, .int .i64 e], .int .i64 q] w fun ev w' => ev = .returned (.func (.func 63) #[] #[.pointer (some ⟨w.heap.size + 1, 0, none⟩), .pointer (some ⟨w.heap.size, 0, none⟩)]) ∧ Below w.heap.size w w' ∧ w'.heap[w.heap.size]? = some (.cells #[.bool s, .slice A n c, .int .i64 e] 24 (0, 0)) ∧ w'.heap[w.heap.size + 1]? = some (.cells #[.int .i64 q] 29 (0, 0)) ∧ w.heap.size + 2 ≤ w'.heap.size := by
 generalize hw : (w.alloc (.cells #[.bool s, .slice A n c, .int .i64 e] 24)).alloc (.cells #[.int .i64 q] 29) = w1
 obtain ⟨M1, M2, b1, l1, l2⟩ := boxes2 w _ _ hw
 go_enter Tryd.func41, Tryd.ntmps41
 go_wp2
 go_ret
 exact ⟨rfl, b1, M1, M2, l1⟩
end Dy
end Go.Proofs.YtbbnbgllgomolaaDoor
namespace Go.Proofs.YtbbnbgllgomolaaDoor
open Go.RowKit
namespace Dy
open Dp
def Held2 (a b : Nat) (x y : Obj) (v : World) : Prop := v.heap[a]? = some x ∧ v.heap[b]? = some y
set_option maxHeartbeats 6400000 in
set_option maxRecDepth 100000 in
/-- push.both: what comes of two calls, where both are well. -/
theorem both1_ok (w : World) (s1 s2 : Bool) (A1 A2 : Option Addr) (n1 c1 n2 c2 : Nat) (e1 e2 : Int) (ge gd : Nat) (he : ge < w.heap.size) (hd : gd < w.heap.size)
  (E : w.heap[ge]? = some (.cells #[.int .i64 0] 29 (0, 0))) (D : w.heap[gd]? = some (.cells #[.bool s1, .slice A1 n1 c1, .int .i64 e1] 24 (0, 0))) :
  Calls Tryd.prog 63 #[.agg #[.bool s2, .slice A2 n2 c2, .int .i64 e2], .int .i64 0, .pointer (some ⟨ge, 0, none⟩), .pointer (some ⟨gd, 0, none⟩)] w fun ev w' => ev = .returned (.tuple #[.agg #[.bool s1, .slice A1 n1 c1, .int .i64 e1], .agg #[.bool s2, .slice A2 n2 c2, .int .i64 e2], .int .i64 0]) ∧ Below w.heap.size w w' := by
 generalize hw : ((w.alloc (.cells #[.bool s2, .slice A2 n2 c2, .int .i64 e2] 24)).alloc (.cells #[.bool false, .slice none 0 0, .int .i64 0] 24)).alloc (.cells #[.bool false, .slice none 0 0, .int .i64 0] 24) = w1
 obtain ⟨B4, B6, B7, b1, l1, l2⟩ := boxes3R w _ _ _ hw
 have E1 := (b1.block ge he).trans E
 have D1 := (b1.block gd hd).trans D
 obtain ⟨k1, k2⟩ := Ma.cells1 E1
 go_enter Tryd.func63, Tryd.ntmps63
 go_wp2_with fail
 try clear hw
 refine region_E (Held2 gd w.heap.size (.cells #[.bool s1, .slice A1 n1 c1, .int .i64 e1] 24 (0, 0)) (.cells #[.bool s2, .slice A2 n2 c2, .int .i64 e2] 24 (0, 0))) [] (m := 5) (L := #[zF,zF,zF,zF,zF]) (by kernel_rfl) (by rfl) (by rfl) ?_
 have b2 : Below w.heap.size w w1.drew := b1.drew
 have hS0 : Held2 gd w.heap.size (.cells #[.bool s1, .slice A1 n1 c1, .int .i64 e1] 24 (0, 0)) (.cells #[.bool s2, .slice A2 n2 c2, .int .i64 e2] 24 (0, 0)) w1.drew := ⟨D1, B4⟩
 replace B6 : w1.drew.heap[w.heap.size + 1]? = some (.cells #[.bool false, .slice none 0 0, .int .i64 0] 24 (0, 0)) := B6
 replace B7 : w1.drew.heap[w.heap.size + 1 + 1]? = some (.cells #[.bool false, .slice none 0 0, .int .i64 0] 24 (0, 0)) := B7
 generalize w1.drew = v1 at *
 refine readE (i := 0) (L := #[zT,zF,zF,zF,zF]) (v := .agg #[.bool s1, .slice A1 n1 c1, .int .i64 e1]) rfl (by rfl) (by kernel_rfl) (by kernel_rfl) (by kernel_rfl) (fun _ _ _ h => h) (by assumption) (by rfl) ?ry_1 ?rr_1
 case ry_1 =>
  intro w' h1
  obtain ⟨⟨p0, p1, p2⟩, _⟩ := boxD h1.1
  go_simp
 try simp only [Act.put, zp]
 refine readE (i := 1) (L := #[zT,zT,zF,zF,zF]) (v := .agg #[.bool s2, .slice A2 n2 c2, .int .i64 e2]) rfl (by rfl) (by kernel_rfl) (by kernel_rfl) (by kernel_rfl) (fun _ _ _ h => h) (by assumption) (by rfl) ?ry_2 ?rr_2
 case ry_2 =>
  intro w' h1
  obtain ⟨⟨p0, p1, p2⟩, _⟩ := boxD h1.2
  go_simp
 try simp only [Act.put, zp]
 refine stepK (i := 2) (L := #[zT,zT,zT,zF,zF]) rfl (by rfl) (by kernel_rfl) (by rfl) (fun K hK => ?_)
 obtain ⟨⟨z0, z1, z2⟩, z3, z4, z5⟩ := boxD B6
 obtain ⟨U, hU, hX, hbU, hfU, y1, y2⟩ := zputR B6 (.bool s1) (.slice A1 n1 c1) (.int .i64 e1)
 go_simp
 try rw [hU]
 clear z0 z1 z2 z3 z4 z5 hU
 have hS1 : Held2 gd w.heap.size (.cells #[.bool s1, .slice A1 n1 c1, .int .i64 e1] 24 (0, 0)) (.cells #[.bool s2, .slice A2 n2 c2, .int .i64 e2] 24 (0, 0)) U := ⟨(hfU _ (by omega)).trans hS0.1, (hfU _ (by omega)).trans hS0.2⟩
 have b3 := hbU _ _ b2 (show w.heap.size ≤ w.heap.size + 1 by omega)
 replace B7 := (hfU (w.heap.size + 1 + 1) (by omega)).trans B7
 refine hK _ _ ⟨fun _ _ => hS1, ?_⟩
 clear hK K hfU hbU B6 b2 hS0
 try simp only [Act.put, zp]
 refine stepK (i := 3) (L := #[zT,zT,zT,zT,zF]) rfl (by rfl) (by kernel_rfl) (by rfl) (fun K hK => ?_)
 obtain ⟨⟨z0, z1, z2⟩, z3, z4, z5⟩ := boxD B7
 obtain ⟨U2, hU, hX2, hbU, hfU, y3, y4⟩ := zputR B7 (.bool s2) (.slice A2 n2 c2) (.int .i64 e2)
 go_simp
 try rw [hU]
 clear z0 z1 z2 z3 z4 z5 hU
 have hS2 : Held2 gd w.heap.size (.cells #[.bool s1, .slice A1 n1 c1, .int .i64 e1] 24 (0, 0)) (.cells #[.bool s2, .slice A2 n2 c2, .int .i64 e2] 24 (0, 0)) U2 := ⟨(hfU _ (by omega)).trans hS1.1, (hfU _ (by omega)).trans hS1.2⟩
 have b4 := hbU _ _ b3 (show w.heap.size ≤ w.heap.size + 1 + 1 by omega)
 replace hX := (hfU (w.heap.size + 1) (by omega)).trans hX
 refine hK _ _ ⟨fun _ _ => hS2, ?_⟩
 clear hK K hfU hbU B7 b3 hS1
 try simp only [Act.put, zp]
 refine zE 4 #[zT,zT,zT,zT,zT] ?_ rfl ?hy5 ?rest5
 case hy5 => intro w; go_simp; (try with_reducible rfl)
 try simp only [Act.put, zp]
 refine doneE (by kernel_rfl) ?_ _
 obtain ⟨⟨p0, p1, p2⟩, p3, p4, p5⟩ := boxD hX
 obtain ⟨⟨q0, q1, q2⟩, q3, q4, q5⟩ := boxD hX2
 go_wp2
 exact bodyPost_ret (v := .tuple #[.agg #[.bool s1, .slice A1 n1 c1, .int .i64 e1], .agg #[.bool s2, .slice A2 n2 c2, .int .i64 e2], .int .i64 0]) (by simp [results, Tryd.results63, go_sem, p0, p1, p2, q0, q1, q2]) rfl ⟨rfl, b4⟩
end Dy
end Go.Proofs.YtbbnbgllgomolaaDoor
namespace Go.Proofs.YtbbnbgllgomolaaDoor
open Go.RowKit
namespace Dy
open Dp
def Held3 (a b c : Nat) (x y z : Obj) (v : World) : Prop := v.heap[a]? = some x ∧ v.heap[b]? = some y ∧ v.heap[c]? = some z
set_option maxHeartbeats 6400000 in
set_option maxRecDepth 100000 in
/-- push.both: the first one erred. -/
theorem both1_bad1 (w : World) (s1 s2 : Bool) (A1 A2 : Option Addr) (n1 c1 n2 c2 : Nat) (e1 e2 q f : Int) (hq : q ≠ 0) (ge gd : Nat) (he : ge < w.heap.size) (_hd : gd < w.heap.size)
  (E : w.heap[ge]? = some (.cells #[.int .i64 q] 29 (0, 0))) (_D : w.heap[gd]? = some (.cells #[.bool s1, .slice A1 n1 c1, .int .i64 e1] 24 (0, 0))) :
  Calls Tryd.prog 63 #[.agg #[.bool s2, .slice A2 n2 c2, .int .i64 e2], .int .i64 f, .pointer (some ⟨ge, 0, none⟩), .pointer (some ⟨gd, 0, none⟩)] w fun ev w' => ev = .returned (.tuple #[.agg #[.bool false, .slice none 0 0, .int .i64 0], .agg #[.bool false, .slice none 0 0, .int .i64 0], .int .i64 q]) ∧ Below w.heap.size w w' := by
 have hqb : (q == 0) = false := by simpa using hq
 have hqb2 : (q != 0) = true := by simpa using hq
 clear hq
 generalize hw : ((w.alloc (.cells #[.bool s2, .slice A2 n2 c2, .int .i64 e2] 24)).alloc (.cells #[.bool false, .slice none 0 0, .int .i64 0] 24)).alloc (.cells #[.bool false, .slice none 0 0, .int .i64 0] 24) = w1
 obtain ⟨B4, B6, B7, b1, l1, l2⟩ := boxes3R w _ _ _ hw
 have E1 := (b1.block ge he).trans E
 obtain ⟨k1, k2⟩ := Ma.cells1 E1
 go_enter Tryd.func63, Tryd.ntmps63
 go_wp2_with fail
 try clear hw
 clear k1 k2
 refine region_E (Held3 (w.heap.size + 1) (w.heap.size + 1 + 1) ge (.cells #[.bool false, .slice none 0 0, .int .i64 0] 24 (0, 0)) (.cells #[.bool false, .slice none 0 0, .int .i64 0] 24 (0, 0)) (.cells #[.int .i64 q] 29 (0, 0))) [] (m := 6) (L := #[zF,zF,zF,zF,zF,zF]) (by kernel_rfl) (by rfl) (by rfl) ?_
 have b2 : Below w.heap.size w w1.drew := b1.drew
 have hS0 : Held3 (w.heap.size + 1) (w.heap.size + 1 + 1) ge (.cells #[.bool false, .slice none 0 0, .int .i64 0] 24 (0, 0)) (.cells #[.bool false, .slice none 0 0, .int .i64 0] 24 (0, 0)) (.cells #[.int .i64 q] 29 (0, 0)) w1.drew := ⟨B6, B7, E1⟩
 generalize w1.drew = v1 at *
 refine readE (i := 0) (L := #[zT,zF,zF,zF,zF,zF]) (v := .agg #[.bool false, .slice none 0 0, .int .i64 0]) rfl (by rfl) (by kernel_rfl) (by kernel_rfl) (by kernel_rfl) (fun _ _ _ h => h) (by assumption) (by rfl) ?ry_1 ?rr_1
 case ry_1 =>
  intro w' h1
  obtain ⟨⟨p0, p1, p2⟩, _⟩ := boxD h1.1
  go_simp
 try simp only [Act.put, zp]
 refine readE (i := 1) (L := #[zT,zT,zF,zF,zF,zF]) (v := .agg #[.bool false, .slice none 0 0, .int .i64 0]) rfl (by rfl) (by kernel_rfl) (by kernel_rfl) (by kernel_rfl) (fun _ _ _ h => h) (by assumption) (by rfl) ?ry_2 ?rr_2
 case ry_2 =>
  intro w' h1
  obtain ⟨⟨p0, p1, p2⟩, _⟩ := boxD h1.2.1
  go_simp
 try simp only [Act.put, zp]
 refine readE (i := 2) (L := #[zT,zT,zT,zF,zF,zF]) (v := .int .i64 q) rfl (by rfl) (by kernel_rfl) (by kernel_rfl) (by kernel_rfl) (fun _ _ _ h => h) (by assumption) (by rfl) ?ry_3 ?rr_3
 case ry_3 =>
  intro w' h1
  obtain ⟨k1, k2⟩ := Ma.cells1 h1.2.2
  go_simp
 try simp only [Act.put, zp]
 refine stepK (i := 3) (L := #[zT,zT,zT,zT,zF,zF]) rfl (by rfl) (by kernel_rfl) (by rfl) (fun K hK => ?_)
 obtain ⟨⟨z0, z1, z2⟩, z3, z4, z5⟩ := boxD hS0.1
 obtain ⟨U, hU, hX, hbU, hfU, y1, y2⟩ := zputR hS0.1 (.bool false) (.slice none 0 0) (.int .i64 0)
 go_simp
 try rw [hU]
 clear z0 z1 z2 z3 z4 z5 hU
 have b3 := hbU _ _ b2 (show w.heap.size ≤ w.heap.size + 1 by omega)
 have hS1 : Held3 (w.heap.size + 1) (w.heap.size + 1 + 1) ge (.cells #[.bool false, .slice none 0 0, .int .i64 0] 24 (0, 0)) (.cells #[.bool false, .slice none 0 0, .int .i64 0] 24 (0, 0)) (.cells #[.int .i64 q] 29 (0, 0)) U := ⟨hX, (hfU _ (by omega)).trans hS0.2.1, (hfU _ (by omega)).trans hS0.2.2⟩
 refine hK _ _ ⟨fun _ _ => hS1, ?_⟩
 clear hK K hfU hbU b2 hS0 hX
 try simp only [Act.put, zp]
 refine stepK (i := 4) (L := #[zT,zT,zT,zT,zT,zF]) rfl (by rfl) (by kernel_rfl) (by rfl) (fun K hK => ?_)
 obtain ⟨⟨z0, z1, z2⟩, z3, z4, z5⟩ := boxD hS1.2.1
 obtain ⟨U2, hU, hX, hbU, hfU, y3, y4⟩ := zputR hS1.2.1 (.bool false) (.slice none 0 0) (.int .i64 0)
 go_simp
 try rw [hU]
 clear z0 z1 z2 z3 z4 z5 hU
 have b4 := hbU _ _ b3 (show w.heap.size ≤ w.heap.size + 1 + 1 by omega)
 have hS2 : Held3 (w.heap.size + 1) (w.heap.size + 1 + 1) ge (.cells #[.bool false, .slice none 0 0, .int .i64 0] 24 (0, 0)) (.cells #[.bool false, .slice none 0 0, .int .i64 0] 24 (0, 0)) (.cells #[.int .i64 q] 29 (0, 0)) U2 := ⟨(hfU _ (by omega)).trans hS1.1, hX, (hfU _ (by omega)).trans hS1.2.2⟩
 refine hK _ _ ⟨fun _ _ => hS2, ?_⟩
 clear hK K hfU hbU b3 hS1 hX
 try simp only [Act.put, zp]
 refine zE 5 #[zT,zT,zT,zT,zT,zT] ?_ rfl ?hy11 ?rest11
 case hy11 => intro w; go_simp; (try with_reducible rfl)
 try simp only [Act.put, zp]
 refine doneE (by kernel_rfl) ?_ _
 obtain ⟨⟨p0, p1, p2⟩, p3, p4, p5⟩ := boxD hS2.1
 obtain ⟨⟨q0, q1, q2⟩, q3, q4, q5⟩ := boxD hS2.2.1
 go_wp2
 exact bodyPost_ret (v := .tuple #[.agg #[.bool false, .slice none 0 0, .int .i64 0], .agg #[.bool false, .slice none 0 0, .int .i64 0], .int .i64 q]) (by simp [results, Tryd.results63, go_sem, p0, p1, p2, q0, q1, q2]) rfl ⟨rfl, b4⟩
set_option maxHeartbeats 6400000 in
set_option maxRecDepth 100000 in
/-- push.both: the second one erred. -/
theorem both1_bad2 (w : World) (s1 s2 : Bool) (A1 A2 : Option Addr) (n1 c1 n2 c2 : Nat) (e1 e2 q _f : Int) (hq : q ≠ 0) (ge gd : Nat) (he : ge < w.heap.size) (_hd : gd < w.heap.size)
  (E : w.heap[ge]? = some (.cells #[.int .i64 0] 29 (0, 0))) (_D : w.heap[gd]? = some (.cells #[.bool s1, .slice A1 n1 c1, .int .i64 e1] 24 (0, 0))) :
  Calls Tryd.prog 63 #[.agg #[.bool s2, .slice A2 n2 c2, .int .i64 e2], .int .i64 q, .pointer (some ⟨ge, 0, none⟩), .pointer (some ⟨gd, 0, none⟩)] w fun ev w' => ev = .returned (.tuple #[.agg #[.bool false, .slice none 0 0, .int .i64 0], .agg #[.bool false, .slice none 0 0, .int .i64 0], .int .i64 q]) ∧ Below w.heap.size w w' := by
 have hqb : (q == 0) = false := by simpa using hq
 have hqb2 : (q != 0) = true := by simpa using hq
 clear hq
 generalize hw : ((w.alloc (.cells #[.bool s2, .slice A2 n2 c2, .int .i64 e2] 24)).alloc (.cells #[.bool false, .slice none 0 0, .int .i64 0] 24)).alloc (.cells #[.bool false, .slice none 0 0, .int .i64 0] 24) = w1
 obtain ⟨B4, B6, B7, b1, l1, l2⟩ := boxes3R w _ _ _ hw
 have E1 := (b1.block ge he).trans E
 obtain ⟨k1, k2⟩ := Ma.cells1 E1
 go_enter Tryd.func63, Tryd.ntmps63
 go_wp2_with fail
 try clear hw
 clear k1 k2
 refine region_E (Held3 (w.heap.size + 1) (w.heap.size + 1 + 1) ge (.cells #[.bool false, .slice none 0 0, .int .i64 0] 24 (0, 0)) (.cells #[.bool false, .slice none 0 0, .int .i64 0] 24 (0, 0)) (.cells #[.int .i64 0] 29 (0, 0))) [] (m := 6) (L := #[zF,zF,zF,zF,zF,zF]) (by kernel_rfl) (by rfl) (by rfl) ?_
 have b2 : Below w.heap.size w w1.drew := b1.drew
 have hS0 : Held3 (w.heap.size + 1) (w.heap.size + 1 + 1) ge (.cells #[.bool false, .slice none 0 0, .int .i64 0] 24 (0, 0)) (.cells #[.bool false, .slice none 0 0, .int .i64 0] 24 (0, 0)) (.cells #[.int .i64 0] 29 (0, 0)) w1.drew := ⟨B6, B7, E1⟩
 generalize w1.drew = v1 at *
 refine readE (i := 0) (L := #[zT,zF,zF,zF,zF,zF]) (v := .agg #[.bool false, .slice none 0 0, .int .i64 0]) rfl (by rfl) (by kernel_rfl) (by kernel_rfl) (by kernel_rfl) (fun _ _ _ h => h) (by assumption) (by rfl) ?ry_1 ?rr_1
 case ry_1 =>
  intro w' h1
  obtain ⟨⟨p0, p1, p2⟩, _⟩ := boxD h1.1
  go_simp
 try simp only [Act.put, zp]
 refine readE (i := 1) (L := #[zT,zT,zF,zF,zF,zF]) (v := .agg #[.bool false, .slice none 0 0, .int .i64 0]) rfl (by rfl) (by kernel_rfl) (by kernel_rfl) (by kernel_rfl) (fun _ _ _ h => h) (by assumption) (by rfl) ?ry_2 ?rr_2
 case ry_2 =>
  intro w' h1
  obtain ⟨⟨p0, p1, p2⟩, _⟩ := boxD h1.2.1
  go_simp
 try simp only [Act.put, zp]
 refine zE 2 #[zT,zT,zT,zF,zF,zF] ?_ rfl ?hy14 ?rest14
 case hy14 => intro w; go_simp; (try with_reducible rfl)
 try simp only [Act.put, zp]
 refine stepK (i := 3) (L := #[zT,zT,zT,zT,zF,zF]) rfl (by rfl) (by kernel_rfl) (by rfl) (fun K hK => ?_)
 obtain ⟨⟨z0, z1, z2⟩, z3, z4, z5⟩ := boxD hS0.1
 obtain ⟨U, hU, hX, hbU, hfU, y1, y2⟩ := zputR hS0.1 (.bool false) (.slice none 0 0) (.int .i64 0)
 go_simp
 try rw [hU]
 clear z0 z1 z2 z3 z4 z5 hU
 have b3 := hbU _ _ b2 (show w.heap.size ≤ w.heap.size + 1 by omega)
 have hS1 : Held3 (w.heap.size + 1) (w.heap.size + 1 + 1) ge (.cells #[.bool false, .slice none 0 0, .int .i64 0] 24 (0, 0)) (.cells #[.bool false, .slice none 0 0, .int .i64 0] 24 (0, 0)) (.cells #[.int .i64 0] 29 (0, 0)) U := ⟨hX, (hfU _ (by omega)).trans hS0.2.1, (hfU _ (by omega)).trans hS0.2.2⟩
 refine hK _ _ ⟨fun _ _ => hS1, ?_⟩
 clear hK K hfU hbU b2 hS0 hX
 try simp only [Act.put, zp]
 refine stepK (i := 4) (L := #[zT,zT,zT,zT,zT,zF]) rfl (by rfl) (by kernel_rfl) (by rfl) (fun K hK => ?_)
 obtain ⟨⟨z0, z1, z2⟩, z3, z4, z5⟩ := boxD hS1.2.1
 obtain ⟨U2, hU, hX, hbU, hfU, y3, y4⟩ := zputR hS1.2.1 (.bool false) (.slice none 0 0) (.int .i64 0)
 go_simp
 try rw [hU]
 clear z0 z1 z2 z3 z4 z5 hU
 have b4 := hbU _ _ b3 (show w.heap.size ≤ w.heap.size + 1 + 1 by omega)
 have hS2 : Held3 (w.heap.size + 1) (w.heap.size + 1 + 1) ge (.cells #[.bool false, .slice none 0 0, .int .i64 0] 24 (0, 0)) (.cells #[.bool false, .slice none 0 0, .int .i64 0] 24 (0, 0)) (.cells #[.int .i64 0] 29 (0, 0)) U2 := ⟨(hfU _ (by omega)).trans hS1.1, hX, (hfU _ (by omega)).trans hS1.2.2⟩
 refine hK _ _ ⟨fun _ _ => hS2, ?_⟩
 clear hK K hfU hbU b3 hS1 hX
 try simp only [Act.put, zp]
 refine zE 5 #[zT,zT,zT,zT,zT,zT] ?_ rfl ?hy17 ?rest17
 case hy17 => intro w; go_simp; (try with_reducible rfl)
 try simp only [Act.put, zp]
 refine doneE (by kernel_rfl) ?_ _
 obtain ⟨⟨p0, p1, p2⟩, p3, p4, p5⟩ := boxD hS2.1
 obtain ⟨⟨q0, q1, q2⟩, q3, q4, q5⟩ := boxD hS2.2.1
 go_wp2
 exact bodyPost_ret (v := .tuple #[.agg #[.bool false, .slice none 0 0, .int .i64 0], .agg #[.bool false, .slice none 0 0, .int .i64 0], .int .i64 q]) (by simp [results, Tryd.results63, go_sem, p0, p1, p2, q0, q1, q2]) rfl ⟨rfl, b4⟩
end Dy
end Go.Proofs.YtbbnbgllgomolaaDoor
namespace Go.Proofs.YtbbnbgllgomolaaDoor
open Go.RowKit
namespace Ma
open Dp Dy
/-- What both tells. -/
def BothR (a b : Dv) (q f : Int) (X Y : Dv) (c : Int) : Prop :=
 (q = 0 ∧ f = 0 ∧ X = a ∧ Y = b ∧ c = 0) ∨ (q ≠ 0 ∧ X = ZM.C ∧ Y = ZM.C ∧ c = q) ∨ (q = 0 ∧ f ≠ 0 ∧ X = ZM.C ∧ Y = ZM.C ∧ c = f)
theorem bothR (a b : Dv) (q f : Int) : ∃ X Y c, BothR a b q f X Y c := by
 by_cases hq : q = 0
 · by_cases hf : f = 0
   · exact ⟨a, b, 0, .inl ⟨hq, hf, rfl, rfl, rfl⟩⟩
   · exact ⟨_, _, f, .inr (.inr ⟨hq, hf, rfl, rfl, rfl⟩)⟩
 · exact ⟨_, _, q, .inr (.inl ⟨hq, rfl, rfl, rfl⟩)⟩
theorem BothR.all {a b : Dv} {q f : Int} {X Y : Dv} {c : Int} (h : BothR a b q f X Y c) {P : Dv → Prop} (ha : P a) (hb : P b) (hz : P ZM.C) : P X ∧ P Y := by
 rcases h with ⟨_, _, rfl, rfl, _⟩ | ⟨_, rfl, rfl, _⟩ | ⟨_, _, rfl, rfl, _⟩
 · exact ⟨ha, hb⟩
 · exact ⟨hz, hz⟩
 · exact ⟨hz, hz⟩
set_option maxHeartbeats 6400000 in
/-- push.both: what comes of two calls. -/
theorem both1_any (w : World) (a b : Dv) (q f : Int) (ge gd : Nat) (he : ge < w.heap.size) (hd : gd < w.heap.size)
  (E : w.heap[ge]? = some (.cells #[.int .i64 q] 29 (0, 0))) (D : w.heap[gd]? = some (.cells #[.bool a.s, .slice a.A a.n a.c, .int .i64 a.e] 24 (0, 0))) (X Y : Dv) (c : Int) (h : BothR a b q f X Y c) :
  Calls Tryd.prog 63 #[.agg #[.bool b.s, .slice b.A b.n b.c, .int .i64 b.e], .int .i64 f, .pointer (some ⟨ge, 0, none⟩), .pointer (some ⟨gd, 0, none⟩)] w fun ev w' => ev = .returned (.tuple #[.agg #[.bool X.s, .slice X.A X.n X.c, .int .i64 X.e], .agg #[.bool Y.s, .slice Y.A Y.n Y.c, .int .i64 Y.e], .int .i64 c]) ∧ Below w.heap.size w w' := by
 rcases h with ⟨rfl, rfl, rfl, rfl, rfl⟩ | ⟨hq, rfl, rfl, rfl⟩ | ⟨rfl, hf, rfl, rfl, rfl⟩
 · exact both1_ok w X.s Y.s X.A Y.A X.n X.c Y.n Y.c X.e Y.e ge gd he hd E D
 · exact both1_bad1 w a.s b.s a.A b.A a.n a.c b.n b.c a.e b.e c f hq ge gd he hd E D
 · exact both1_bad2 w a.s b.s a.A b.A a.n a.c b.n b.c a.e b.e c 0 hf ge gd he hd E D
theorem alloc_d (w : World) : ∃ U, w.alloc (.cells #[.bool false, .slice none 0 0, .int .i64 0] 24) = U ∧ U.heap[w.heap.size]? = some (.cells #[.bool false, .slice none 0 0, .int .i64 0] 24 (0, 0)) ∧ Below w.heap.size w U ∧ w.heap.size < U.heap.size :=
 ⟨_, rfl, heap_alloc_last _ _, (Below.refl _ w).alloc (Nat.le_refl _) _, by simp⟩
theorem far3k {w : World} {g g' o1 o2 o3 : Nat} (h : g' ≠ g) (x y z : Value) : (((w.setCell ⟨g, o1, none⟩ x).setCell ⟨g, o2, none⟩ y).setCell ⟨g, o3, none⟩ z).heap[g']? = w.heap[g']? :=
 (Below.heap_setCell _ _ _ _ h).trans ((Below.heap_setCell _ _ _ _ h).trans (Below.heap_setCell _ _ _ _ h))
/-- A row, in neither of two blocks. -/
def OffD (w : World) (lo g g' : Nat) (d : Dv) : Prop := Ints w lo w.heap.size .u32 d.A d.n d.xs ∧ (0 < d.n → ∀ b off, d.A = some ⟨b, off, none⟩ → b ≠ g ∧ b ≠ g')
theorem OffD.zero (w : World) (lo g g' : Nat) : OffD w lo g g' ZM.C := ⟨Ints.nil_ .., fun h => absurd h (Nat.lt_irrefl 0)⟩
theorem OffD.of {w : World} {lo l h g g' : Nat} {d : Dv} (hI : Ints w l h .u32 d.A d.n d.xs) (hl : lo ≤ l) (hh : h ≤ w.heap.size) (h1 : g < l ∨ h ≤ g) (h2 : g' < l ∨ h ≤ g') : OffD w lo g g' d :=
 ⟨hI.more hl hh, fun h0 b off e => by
  obtain ⟨b', off', e', k1, k2, _⟩ := hI.row h0
  rw [e] at e'
  injection e' with e'
  injection e' with e1 _ _
  subst e1
  exact ⟨by omega, by omega⟩⟩
theorem OffD.far {w w' : World} {lo g g' j : Nat} {d : Dv} (h : OffD w lo g g' d) (hf : ∀ k, k ≠ j → w'.heap[k]? = w.heap[k]?) (hs : w'.heap.size = w.heap.size) (hj : j = g ∨ j = g') : OffD w' lo g g' d :=
 ⟨by rw [hs]; exact ints_off h.1 h.2 hf hj, h.2⟩
end Ma
end Go.Proofs.YtbbnbgllgomolaaDoor
namespace Go.Proofs.YtbbnbgllgomolaaDoor
open Go.RowKit
namespace Ma
open Dp Dy
open Classical in
/-- What comes of two numbers; the first error, if there is one. -/
noncomputable def bothD (p q : Dn × Int) : (Dn × Dn) × Int := if p.2 = 0 then (if q.2 = 0 then ((p.1, q.1), 0) else ((Dn.zero, Dn.zero), q.2)) else ((Dn.zero, Dn.zero), p.2)
theorem bothD_is {a b X Y : Dv} {q f c : Int} {r1 r2 x y : Dn} {code : Int} (h : BothR a b q f X Y c) (ha : Is r1 a) (hb : Is r2 b) (hd : bothD (r1, q) (r2, f) = ((x, y), code)) : Is x X ∧ Is y Y ∧ c = code := by
 unfold bothD at hd
 rcases h with ⟨rfl, rfl, rfl, rfl, rfl⟩ | ⟨hq, rfl, rfl, rfl⟩ | ⟨rfl, hf, rfl, rfl, rfl⟩
 · rw [if_pos rfl, if_pos rfl] at hd
   injection hd with h1 h2
   injection h1 with h3 h4
   subst h3 h4
   exact ⟨ha, hb, h2⟩
 · rw [if_neg hq] at hd
   injection hd with h1 h2
   injection h1 with h3 h4
   subst h3 h4
   exact ⟨Is.zero, Is.zero, h2⟩
 · rw [if_pos rfl, if_neg hf] at hd
   injection hd with h1 h2
   injection h1 with h3 h4
   subst h3 h4
   exact ⟨Is.zero, Is.zero, h2⟩
/-- Down and up. -/
noncomputable def downM (m : Mv) (k : Int) : Dn × Int := toX m.S.s m.S.xs m.S.e m.W.s m.W.xs m.W.e k m.S.s
noncomputable def upM (m : Mv) (k : Int) : Dn × Int := toX m.S.s m.S.xs m.S.e m.W.s m.W.xs m.W.e k (!m.S.s)
open Classical in
/-- A share's mean. -/
noncomputable def meanM (m : Mv) (k : Int) : (Dn × Dn) × Int :=
 if badS [m] = true then ((Dn.zero, Dn.zero), 8) else if k < 0 ∨ 64 < k then ((Dn.zero, Dn.zero), 2) else if m.W.n = 0 then ((Dn.zero, Dn.zero), 6) else bothD (downM m k) (upM m k)
open Classical in
/-- Does a share lie between two values? -/
noncomputable def betweenM (m : Mv) (low high : Int) : Bool × Int :=
 if badS [m] = true then (false, 8) else if low < -2147483647 ∨ 2147483647 < high ∨ high < low then (false, 2) else if m.W.n = 0 then (true, 0) else
  if (bothD (downM m 0) (upM m 0)).2 = 0 then (decide (cmpD (whole low) (bothD (downM m 0) (upM m 0)).1.1 ≤ 0) && decide (cmpD (bothD (downM m 0) (upM m 0)).1.2 (whole high) ≤ 0), 0) else (false, 0)
theorem BothR.two {a b : Dv} {q f : Int} {X Y : Dv} {c : Int} (h : BothR a b q f X Y c) {P Q : Dv → Prop} (ha : P a) (hb : Q b) (hz : P ZM.C) (hz' : Q ZM.C) : P X ∧ Q Y := by
 rcases h with ⟨_, _, rfl, rfl, _⟩ | ⟨_, rfl, rfl, _⟩ | ⟨_, _, rfl, rfl, _⟩
 · exact ⟨ha, hb⟩
 · exact ⟨hz, hz'⟩
 · exact ⟨hz, hz'⟩
end Ma
end Go.Proofs.YtbbnbgllgomolaaDoor
namespace Go.Proofs.YtbbnbgllgomolaaDoor
open Go.RowKit
namespace Ma
open Dp Dy
/-- A number's parts lie between so many times another one's. -/
def liesD (a b : Dn) (low high : Int) : Prop := ∃ K, a.e ≤ K ∧ b.e ≤ K ∧ low * vl b K ≤ vl a K ∧ vl a K ≤ high * vl b K
theorem lies_at {a b : Dn} {low high : Int} (h : liesD a b low high) {K : Nat} (h1 : a.e ≤ K) (h2 : b.e ≤ K) : low * vl b K ≤ vl a K ∧ vl a K ≤ high * vl b K := by
 obtain ⟨L, l1, l2, k1, k2⟩ := h
 have hp : ∀ n : Nat, (0 : Int) < 2 ^ n := fun n => Int.pow_pos (by omega)
 -- both at the greater one
 have a1 := vl_more a (k := K) (l := max K L) h1 (by omega)
 have a2 := vl_more a (k := L) (l := max K L) l1 (by omega)
 have b1 := vl_more b (k := K) (l := max K L) h2 (by omega)
 have b2 := vl_more b (k := L) (l := max K L) l2 (by omega)
 have q1 : low * vl b (max K L) ≤ vl a (max K L) := by
  rw [a2, b2, ← Int.mul_assoc]
  exact Int.mul_le_mul_of_nonneg_right k1 (Int.le_of_lt (hp _))
 have q2 : vl a (max K L) ≤ high * vl b (max K L) := by
  rw [a2, b2, ← Int.mul_assoc]
  exact Int.mul_le_mul_of_nonneg_right k2 (Int.le_of_lt (hp _))
 rw [a1, b1, ← Int.mul_assoc] at q1 q2
 exact ⟨Int.le_of_mul_le_mul_right q1 (hp _), Int.le_of_mul_le_mul_right q2 (hp _)⟩
theorem lies_zero {a b : Dn} (ha : a.m = 0) (hb : b.m = 0) (low high : Int) : liesD a b low high := by
 refine ⟨max a.e b.e, by omega, by omega, ?_, ?_⟩ <;> simp [vl, sg, ha, hb]
/-- Halves lie as the whole. -/
theorem lies_half {a b : Dn} {low high : Int} (h1 : (halfD a).2 = 0) (h2 : (halfD b).2 = 0) : liesD (halfD a).1 (halfD b).1 low high ↔ liesD a b low high := by
 obtain ⟨a1, a2⟩ := half_vl h1
 obtain ⟨b1, b2⟩ := half_vl h2
 have a3 := a2 (max a.e b.e + 1) (by omega)
 have b3 := b2 (max a.e b.e + 1) (by omega)
 constructor
 · intro h
   obtain ⟨k1, k2⟩ := lies_at h (K := max a.e b.e + 1) (by omega) (by omega)
   refine ⟨max a.e b.e + 1, by omega, by omega, ?_, ?_⟩
   · rw [← a3, ← b3, Int.mul_left_comm]
     omega
   · rw [← a3, ← b3, Int.mul_left_comm]
     omega
 · intro h
   obtain ⟨k1, k2⟩ := lies_at h (K := max a.e b.e + 1) (by omega) (by omega)
   rw [← a3, ← b3, Int.mul_left_comm] at k1 k2
   exact ⟨max a.e b.e + 1, by omega, by omega, by omega, by omega⟩
/-- Sums lie as both. -/
theorem lies_add {a b c d : Dn} {low high : Int} (h1 : (addD a c).2 = 0) (h2 : (addD b d).2 = 0) (ha : liesD a b low high) (hc : liesD c d low high) : liesD (addD a c).1 (addD b d).1 low high := by
 obtain ⟨a1, a2⟩ := add_vl h1
 obtain ⟨b1, b2⟩ := add_vl h2
 obtain ⟨K, hK⟩ : ∃ K, a.e + b.e + c.e + d.e ≤ K := ⟨_, Nat.le_refl _⟩
 obtain ⟨k1, k2⟩ := lies_at ha (K := K) (by omega) (by omega)
 obtain ⟨k3, k4⟩ := lies_at hc (K := K) (by omega) (by omega)
 refine ⟨K, by omega, by omega, ?_, ?_⟩
 · rw [a2 K (by omega) (by omega), b2 K (by omega) (by omega), Int.mul_add]
   omega
 · rw [a2 K (by omega) (by omega), b2 K (by omega) (by omega), Int.mul_add]
   omega
/-- Quotients, down and up, tell what lies between. -/
theorem between_law {a b : Dn} (hn : b.neg = false) (h0 : b.m ≠ 0) {low high : Int} (hl : -2147483647 ≤ low) (hh : high ≤ 2147483647) (hlh : low ≤ high) :
  ((bothD (toD a b 0 a.neg) (toD a b 0 (!a.neg))).2 = 0 ∧ cmpD (whole low) (bothD (toD a b 0 a.neg) (toD a b 0 (!a.neg))).1.1 ≤ 0 ∧ cmpD (bothD (toD a b 0 a.neg) (toD a b 0 (!a.neg))).1.2 (whole high) ≤ 0) ↔ liesD a b low high := by
 obtain ⟨K, hK⟩ : ∃ K, a.e + b.e ≤ K := ⟨_, Nat.le_refl _⟩
 obtain ⟨N, hN, sN⟩ := toD_floor hn h0 0 hK (a := a)
 obtain ⟨M, hM, sM⟩ := toD_ceil hn h0 0 hK (a := a)
 obtain ⟨bp, bq⟩ := vl_pos hn h0 K
 have hB : 0 < vl b K := by rw [bp]; exact_mod_cast bq
 rw [Int.pow_zero, Int.mul_one] at sN sM
 have f1 := Int.mul_ediv_add_emod (vl a K) (vl b K)
 have f2 := Int.emod_nonneg (vl a K) (show vl b K ≠ 0 by omega)
 have f3 := Int.emod_lt_of_pos (vl a K) hB
 have g1 := Int.mul_ediv_add_emod (-vl a K) (vl b K)
 have g2 := Int.emod_nonneg (-vl a K) (show vl b K ≠ 0 by omega)
 have g3 := Int.emod_lt_of_pos (-vl a K) hB
 generalize vl a K / vl b K = q at *
 generalize -vl a K / vl b K = p at *
 generalize vl a K % vl b K = r at *
 generalize -vl a K % vl b K = r2 at *
 rw [hN, hM]
 have le_iff : ∀ x y : Int, x * vl b K < y * vl b K + vl b K ↔ x ≤ y := fun x y => by
  constructor
  · intro h
    have : x * vl b K < (y + 1) * vl b K := by rw [Int.add_mul, Int.one_mul]; exact h
    have := Int.lt_of_mul_lt_mul_right this (Int.le_of_lt hB)
    omega
  · intro h
    have := Int.mul_le_mul_of_nonneg_right h (Int.le_of_lt hB)
    omega
 have e1 : vl b K * q = q * vl b K := Int.mul_comm ..
 have e2 : vl b K * p = p * vl b K := Int.mul_comm ..
 have up : ∀ x y : Int, x ≤ y → x * vl b K ≤ y * vl b K := fun x y h => Int.mul_le_mul_of_nonneg_right h (Int.le_of_lt hB)
 have c1 : low * vl b K ≤ vl a K ↔ low ≤ q := ⟨fun h => (le_iff low q).1 (by omega), fun h => by have := up low q h; omega⟩
 have e3 : -high * vl b K = -(high * vl b K) := Int.neg_mul ..
 have c2 : vl a K ≤ high * vl b K ↔ -high ≤ p := ⟨fun h => (le_iff (-high) p).1 (by omega), fun h => by have := up (-high) p h; omega⟩
 have hlies : liesD a b low high ↔ low ≤ q ∧ -p ≤ high := by
  constructor
  · intro h
    obtain ⟨k1, k2⟩ := lies_at h (K := K) (by omega) (by omega)
    exact ⟨c1.1 k1, by have := c2.1 k2; omega⟩
  · rintro ⟨k1, k2⟩
    exact ⟨K, by omega, by omega, c1.2 k1, c2.2 (by omega)⟩
 rw [hlies]
 have qp : q ≤ -p := (le_iff _ _).1 (by rw [Int.neg_mul]; omega)
 have wv : ∀ z : Int, -9223372036854775808 ≤ z → z ≤ 9223372036854775807 → ∀ x : Dn, x.e ≤ 0 → ((cmpD (whole z) x ≤ 0 ↔ z ≤ vl x 0) ∧ (cmpD x (whole z) ≤ 0 ↔ vl x 0 ≤ z)) := fun z z0 z1 x hx => by
  have := vl_whole z
  have hw : (whole z).e ≤ 0 := Nat.le_refl _
  rcases cmp_spec (whole z) x hw hx with ⟨k1, k2⟩ | ⟨k1, k2⟩ | ⟨k1, k2⟩ <;> rcases cmp_spec x (whole z) hx hw with ⟨k3, k4⟩ | ⟨k3, k4⟩ | ⟨k3, k4⟩ <;> rw [k1, k3] <;> omega
 constructor
 · rintro ⟨h1, h2, h3⟩
   unfold bothD at h1 h2 h3
   by_cases k1 : (formed a.neg N 0).2 = 0
   · by_cases k2 : (formed a.neg M 0).2 = 0
     · rw [if_pos k1, if_pos k2] at h2 h3
       obtain ⟨x1, x2⟩ := formed_vl k1
       obtain ⟨y1, y2⟩ := formed_vl k2
       have x3 := x2 0 (Nat.le_refl _)
       have y3 := y2 0 (Nat.le_refl _)
       simp only [Nat.sub_self, Nat.pow_zero, Nat.mul_one] at x3 y3
       have u1 := (wv low (by omega) (by omega) _ x1).1.1 h2
       have u2 := (wv high (by omega) (by omega) _ y1).2.1 h3
       omega
     · rw [if_pos k1, if_neg k2] at h1
       exact absurd h1 k2
   · rw [if_neg k1] at h1
     exact absurd h1 k1
 · rintro ⟨h1, h2⟩
   have F1 : formed a.neg N 0 = (whole q, 0) := whole_of (by omega) (by omega) sN
   have F2 : formed a.neg M 0 = (whole (-p), 0) := whole_of (by omega) (by omega) sM
   rw [F1, F2]
   unfold bothD
   rw [if_pos rfl, if_pos rfl]
   refine ⟨rfl, (wv low (by omega) (by omega) _ (Nat.le_refl _)).1.2 (by rw [vl_whole]; exact h1), (wv high (by omega) (by omega) _ (Nat.le_refl _)).2.2 (by rw [vl_whole]; omega)⟩
end Ma
end Go.Proofs.YtbbnbgllgomolaaDoor