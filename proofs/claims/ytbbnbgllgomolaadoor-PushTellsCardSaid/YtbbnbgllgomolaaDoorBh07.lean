/- The examples of the chapter: a walk. -/
/- Blocks that stay. -/
/- What a law answers. -/
/- What is reckoned with dyads, whatever they are: contracts. -/
/- Quotients of whole numbers: no program in sight. -/
/- Facts are moved along a chain of calls. No function in sight. -/
/- The reference's May: walks (printed by gen_dys1.py out of DyW1). -/
/- The limbs of bits: the walk. -/
import Derived.Test.YtbbnbgllgomolaaDoorBh06
import Derived.Test.YtbbnbgllgomolaaDoorBh03
import Derived.Deep.Cut
import Derived.Laws.StructEq
import Derived.Test.YtbbnbgllgomolaaDoorBh05
namespace Go.Proofs.YtbbnbgllgomolaaDoor
open Go.RowKit
namespace Dy
open Dp
theorem may_small (s : Bool) (m e : Nat) (h0 : m ≠ 0) (h1 : m < 16) (h2 : e ≤ 1024) (h3 : 0 < e → m % 2 = 1) : Dn.May ⟨s, m, e⟩ :=
  ⟨capD_gt (k := 4) h1 (by decide), h2, fun h => absurd h h0, h3⟩
theorem al1 : halfD ⟨false, 3, 0⟩ = (⟨false, 3, 1⟩, 0) := formed_of (K := 1) (may_small _ _ _ (by decide) (by decide) (by decide) (by decide)) (by decide) (by decide) (by decide)
theorem al2 : halfD ⟨false, 2, 0⟩ = (⟨false, 1, 0⟩, 0) := formed_of (K := 1) (may_small _ _ _ (by decide) (by decide) (by decide) (by decide)) (by decide) (by decide) (by decide)
/-- A dyad in a box. -/
structure Box (w : World) (g : Nat) (d : Dn) : Prop where
  some_ : ∃ A n c, w.heap[g]? = some (.cells #[.bool d.neg, .slice A n c, .int .i64 d.e] 24 (0, 0)) ∧ Ints w 0 w.heap.size .u32 A n (canon 4294967296 d.m)
theorem Box.below {w w' : World} {g : Nat} {d : Dn} (h : Box w g d) (hb : Below w.heap.size w w') : Box w' g d := by
  obtain ⟨A, n, c, h1, h2⟩ := h.some_
  exact ⟨A, n, c, (hb.block g (Array.getElem?_eq_some_iff.1 h1).1).trans h1, (h2.below hb (Nat.le_refl _)).more (Nat.le_refl _) hb.size⟩
theorem Box.new {w : World} (d : Dn) (A : Option Addr) (n c : Nat) (h : Ints w 0 w.heap.size .u32 A n (canon 4294967296 d.m)) (s : Bool) (e : Int) (hs : s = d.neg) (he : e = d.e) : Box (w.alloc (.cells #[.bool s, .slice A n c, .int .i64 e] 24)) w.heap.size d := by
  subst hs he
  exact ⟨A, n, c, heap_alloc_last _ _, (h.alloc (Nat.le_refl _) _).more (Nat.le_refl _) (by simp)⟩
/-- Amid a walk: nothing of what was has changed, the table is there. -/
structure Amid (w0 w : World) : Prop where
  below : Below w0.heap.size w0 w
  tab : Tab w
theorem Amid.on {w0 w w' : World} (h : Amid w0 w) (hb : Below w.heap.size w w') : Amid w0 w' := ⟨h.below.trans (hb.mono h.below.size), h.tab.below hb h.tab.lt⟩
theorem Amid.alloc {w0 w : World} (h : Amid w0 w) (o : Obj) : Amid w0 (w.alloc o) := h.on ((Below.refl _ w).alloc (Nat.le_refl _) o)
end Dy
end Go.Proofs.YtbbnbgllgomolaaDoor
namespace Go.Proofs.YtbbnbgllgomolaaDoor
open Go.RowKit
namespace Dy
open Dp
/-- Blocks that were there are as they were. -/
def Keeps (W w : World) : Prop := ∀ p, p < W.heap.size → w.heap[p]? = W.heap[p]?
theorem Keeps.refl (W : World) : Keeps W W := fun _ _ => rfl
theorem Keeps.on {W w w' : World} (h : Keeps W w) (hs : W.heap.size ≤ w.heap.size) (hb : Below w.heap.size w w') : Keeps W w' := fun p hp => (hb.block p (Nat.lt_of_lt_of_le hp hs)).trans (h p hp)
theorem Amid.drew {w0 w : World} (h : Amid w0 w) : Amid w0 w.drew := ⟨h.below.drew, h.tab.keep rfl⟩
end Dy
end Go.Proofs.YtbbnbgllgomolaaDoor
namespace Go.Proofs.YtbbnbgllgomolaaDoor
open Go.RowKit
namespace Dy
open Dp
theorem boxOn {w w' : World} {g B : Nat} {x y z : Value} {t : TypeId} (h : w.heap[g]? = some (.cells #[x, y, z] t (0, 0))) (hb : Below B w w') (hB : g < B) : w'.heap[g]? = some (.cells #[x, y, z] t (0, 0)) := (hb.block g hB).trans h
end Dy
end Go.Proofs.YtbbnbgllgomolaaDoor
namespace Go.Proofs.YtbbnbgllgomolaaDoor
open Go.RowKit
namespace Dy
open Dp
open Classical in
noncomputable def addX (s1 : Bool) (xs1 : List Int) (e1 : Int) (s2 : Bool) (xs2 : List Int) (e2 : Int) : Dn × Int := if MayD s1 xs1 e1 ∧ MayD s2 xs2 e2 then addD (dn s1 xs1 e1) (dn s2 xs2 e2) else (Dn.zero, 8)
open Classical in
noncomputable def subX (s1 : Bool) (xs1 : List Int) (e1 : Int) (s2 : Bool) (xs2 : List Int) (e2 : Int) : Dn × Int := if MayD s1 xs1 e1 ∧ MayD s2 xs2 e2 then subD (dn s1 xs1 e1) (dn s2 xs2 e2) else (Dn.zero, 8)
open Classical in
noncomputable def halfX (s1 : Bool) (xs1 : List Int) (e1 : Int) : Dn × Int := if MayD s1 xs1 e1 then halfD (dn s1 xs1 e1) else (Dn.zero, 8)
open Classical in
noncomputable def chkX (s1 : Bool) (xs1 : List Int) (e1 : Int) : Int := if MayD s1 xs1 e1 then 0 else 8
theorem bad_formed {w : World} {e : Ending} {w' : World} (h : Bad w e w') : Formed w Dn.zero 8 e w' := ⟨none, 0, 0, h.1, Nat.le_refl _, h.2, Ints.nil_ ..⟩
theorem addX_ok {s1 s2 : Bool} {xs1 xs2 : List Int} {e1 e2 : Int} (h1 : MayD s1 xs1 e1) (h2 : MayD s2 xs2 e2) : addX s1 xs1 e1 s2 xs2 e2 = addD (dn s1 xs1 e1) (dn s2 xs2 e2) := if_pos ⟨h1, h2⟩
theorem halfX_ok {s1 : Bool} {xs1 : List Int} {e1 : Int} (h1 : MayD s1 xs1 e1) : halfX s1 xs1 e1 = halfD (dn s1 xs1 e1) := if_pos h1
theorem addX_may (s1 : Bool) (xs1 : List Int) (e1 : Int) (s2 : Bool) (xs2 : List Int) (e2 : Int) : (addX s1 xs1 e1 s2 xs2 e2).1.May := by
  unfold addX
  split
  · exact add_may ..
  · exact zero_may
theorem halfX_may (s1 : Bool) (xs1 : List Int) (e1 : Int) : (halfX s1 xs1 e1).1.May := by
  unfold halfX
  split
  · exact half_may ..
  · exact zero_may
theorem Add_all (w : World) (s1 s2 : Bool) (A1 A2 : Option Addr) (n1 c1 n2 c2 : Nat) (xs1 xs2 : List Int) (e1 e2 : Int) (h1 : Ints w 0 w.heap.size .u32 A1 n1 xs1) (h2 : Ints w 0 w.heap.size .u32 A2 n2 xs2) (hT : Tab w) (r : Dn) (code : Int) (h : addX s1 xs1 e1 s2 xs2 e2 = (r, code)) :
    Calls Tryd.prog 42 #[.agg #[.bool s1, .slice A1 n1 c1, .int .i64 e1], .agg #[.bool s2, .slice A2 n2 c2, .int .i64 e2]] w (Formed w r code) := by
  unfold addX at h
  split at h
  · rename_i hm
    exact Add_raw w s1 s2 A1 A2 n1 c1 n2 c2 xs1 xs2 e1 e2 h1 h2 hm.1 hm.2 hT r code h
  · rename_i hm
    injection h with h3 h4
    subst h3 h4
    exact (Add_bad w s1 s2 A1 A2 n1 c1 n2 c2 xs1 xs2 e1 e2 h1 h2 (Classical.not_and_iff_not_or_not.1 hm)).mono fun _ _ k => bad_formed k
theorem Half_all (w : World) (s1 : Bool) (A1 : Option Addr) (n1 c1 : Nat) (xs1 : List Int) (e1 : Int) (h1 : Ints w 0 w.heap.size .u32 A1 n1 xs1) (hT : Tab w) (r : Dn) (code : Int) (h : halfX s1 xs1 e1 = (r, code)) :
    Calls Tryd.prog 21 #[.agg #[.bool s1, .slice A1 n1 c1, .int .i64 e1]] w (Formed w r code) := by
  unfold halfX at h
  split at h
  · rename_i hm
    exact Half_raw w s1 A1 n1 c1 xs1 e1 h1 hm hT r code h
  · rename_i hm
    injection h with h3 h4
    subst h3 h4
    exact (Half_bad w s1 A1 n1 c1 xs1 e1 h1 hm).mono fun _ _ k => bad_formed k
theorem Check_all (w : World) (s1 : Bool) (A1 : Option Addr) (n1 c1 : Nat) (xs1 : List Int) (e1 : Int) (h1 : Ints w 0 w.heap.size .u32 A1 n1 xs1) (k : Int) (h : chkX s1 xs1 e1 = k) :
    Calls Tryd.prog 47 #[.agg #[.bool s1, .slice A1 n1 c1, .int .i64 e1]] w fun e w' => e = .returned (.int .i64 k) ∧ Below w.heap.size w w' := by
  unfold chkX at h
  split at h
  · subst h
    exact Check_ok w 0 w.heap.size s1 A1 n1 c1 xs1 e1 h1 (Nat.le_refl _) (by assumption)
  · subst h
    exact Check_bad w 0 w.heap.size s1 A1 n1 c1 xs1 e1 h1 (Nat.le_refl _) (by assumption)
end Dy
end Go.Proofs.YtbbnbgllgomolaaDoor
namespace Go.Proofs.YtbbnbgllgomolaaDoor
namespace Dp
/-- A whole number. -/
def whole (z : Int) : Dn := ⟨decide (z < 0), z.natAbs, 0⟩
end Dp
end Go.Proofs.YtbbnbgllgomolaaDoor
namespace Go.Proofs.YtbbnbgllgomolaaDoor
open Go.RowKit
namespace Dy
open Dp
theorem later {a b c : World} (h : Below a.heap.size a b) (k : Below b.heap.size b c) : Below a.heap.size a c := h.trans (k.mono h.size)
theorem box_later {w w' : World} {g : Nat} {o : Obj} (h : w.heap[g]? = some o) (hb : Below w.heap.size w w') (hg : g < w.heap.size) : w'.heap[g]? = some o := (hb.block g hg).trans h
theorem tab_later {w w' : World} (h : Tab w) (hb : Below w.heap.size w w') : Tab w' := h.below hb h.lt
end Dy
end Go.Proofs.YtbbnbgllgomolaaDoor
namespace Go.Proofs.YtbbnbgllgomolaaDoor
open Go.RowKit
namespace Dy
open Dp
set_option maxRecDepth 100000 in
/-- headcountref01.May: limbs that may be. -/
theorem r1May_ok (w : World) (lo hi : Nat) (A : Option Addr) (n c : Nat) (xs : List Int) (hX : Ints w lo hi .u32 A n xs) (h : MayL xs) :
    Calls Tryd.prog 91 #[.slice A n c] w fun e w' => e = .returned (.bool true) ∧ w' = w := by
  have hL := Lib.hid hX.len
  have h40 : n ≤ 40 := by have := h.1; have := hL.out; omega
  by_cases h0 : 0 < n
  · have hlast := (cutd_last hX.len h0).1 h.2
    obtain ⟨b, off, rfl, hcell⟩ := get hX h0
    have g1 : w.cell? ⟨b, off + (n - 1), none⟩ = some (.int .u32 (xs[n - 1]?.getD 0)) := hcell (n - 1) (by omega)
    have hb : (xs[n - 1]?.getD 0 != 0) = true := by simpa using hlast
    have hn0 : ((n : Int) == 0) = false := by simp; omega
    have e1 : ((n : Int) - 1).toNat = n - 1 := by omega
    clear hcell hlast h
    generalize xs[n - 1]?.getD 0 = v at g1 hb
    go_enter Tryd.func91, Tryd.ntmps91
    go_wp2
    go_ret
    exact ⟨rfl, rfl⟩
  · obtain rfl : n = 0 := by omega
    clear h
    go_enter Tryd.func91, Tryd.ntmps91
    go_wp2
    go_ret
    exact ⟨rfl, rfl⟩
set_option maxRecDepth 100000 in
/-- headcountref01.May: limbs that may not be. -/
theorem r1May_bad (w : World) (lo hi : Nat) (A : Option Addr) (n c : Nat) (xs : List Int) (hX : Ints w lo hi .u32 A n xs) (h : ¬ MayL xs) :
    Calls Tryd.prog 91 #[.slice A n c] w fun e w' => e = .returned (.bool false) ∧ w' = w := by
  have hL := Lib.hid hX.len
  have hbig := hX.big
  by_cases h40 : n ≤ 40
  · have h0 : 0 < n := by
      rcases Nat.eq_zero_or_pos n with h0 | h0
      · exact absurd ⟨by have := hL.out; omega, fun hne => absurd (hX.zero h0) hne⟩ h
      · exact h0
    have hlast : xs[n - 1]?.getD 0 = 0 := by
      by_cases hl : xs[n - 1]?.getD 0 = 0
      · exact hl
      · exact absurd ⟨by have := hL.out; omega, (cutd_last hX.len h0).2 hl⟩ h
    obtain ⟨b, off, rfl, hcell⟩ := get hX h0
    have g1 : w.cell? ⟨b, off + (n - 1), none⟩ = some (.int .u32 (xs[n - 1]?.getD 0)) := hcell (n - 1) (by omega)
    rw [hlast] at g1
    have hn0 : ((n : Int) == 0) = false := by simp; omega
    have e1 : ((n : Int) - 1).toNat = n - 1 := by omega
    clear hcell hlast h
    go_enter Tryd.func91, Tryd.ntmps91
    go_wp2
    go_ret
    exact ⟨rfl, rfl⟩
  · clear h
    go_enter Tryd.func91, Tryd.ntmps91
    go_wp2
    go_ret
    exact ⟨rfl, rfl⟩
set_option maxHeartbeats 800000 in
set_option maxRecDepth 100000 in
/-- headcountref02.May: dyads that may be. -/
theorem rMay_ok (w : World) (lo hi : Nat) (s : Bool) (A : Option Addr) (n c : Nat) (xs : List Int) (ex : Int) (hX : Ints w lo hi .u32 A n xs) (hhi : hi ≤ w.heap.size) (h : MayD s xs ex) :
    Calls Tryd.prog 82 #[.agg #[.bool s, .slice A n c, .int .i64 ex]] w fun e w' => e = .returned (.bool true) ∧ Below w.heap.size w w' := by
  have hL := Lib.hid hX.len
  have hX2 := hX.alloc hhi (.cells #[.bool s, .slice A n c, .int .i64 ex] 24)
  have hB := (Below.refl w.heap.size w).alloc (Nat.le_refl _) (.cells #[.bool s, .slice A n c, .int .i64 ex] 24)
  obtain ⟨hmay, he0, he1, hz, ho⟩ := h
  by_cases h0 : 0 < n
  · have hne : xs ≠ [] := fun e => by have := hL.out; rw [e] at this; simp at this; omega
    obtain ⟨b, off, rfl, hcell⟩ := get hX2 h0
    have g1 := hcell 0 h0
    rw [Nat.add_zero] at g1
    have ho' := ho hne
    have hn0 : ((n : Int) == 0) = false := by simp; omega
    obtain ⟨v0, v1⟩ := hX.u32 0
    clear hcell hz ho
    generalize xs[0]?.getD 0 = v at g1 ho' v0 v1
    by_cases hpos : 0 < ex
    · have hv := ho' hpos
      have hv2 : v % 2 = 1 := hv
      clear ho' hv hne
      go_enter Tryd.func82, Tryd.ntmps82
      go_wp2_with fail
      refine (r1May_ok _ _ _ _ _ _ _ hX2 hmay).mono ?_
      rintro e w1 ⟨rfl, rfl⟩
      clear hmay
      go_wp2
      go_ret
      exact ⟨rfl, hB⟩
    · obtain rfl : ex = 0 := by omega
      clear ho' hne he0 he1
      go_enter Tryd.func82, Tryd.ntmps82
      go_wp2_with fail
      refine (r1May_ok _ _ _ _ _ _ _ hX2 hmay).mono ?_
      rintro e w1 ⟨rfl, rfl⟩
      clear hmay
      go_wp2
      go_ret
      exact ⟨rfl, hB⟩
  · obtain rfl : n = 0 := by omega
    obtain ⟨rfl, rfl⟩ := hz (hX.zero rfl)
    clear ho he0 he1
    go_enter Tryd.func82, Tryd.ntmps82
    go_wp2_with fail
    refine (r1May_ok _ _ _ _ _ _ _ hX2 hmay).mono ?_
    rintro e w1 ⟨rfl, rfl⟩
    clear hmay
    go_wp2
    go_ret
    exact ⟨rfl, hB⟩
set_option maxHeartbeats 1600000 in
set_option maxRecDepth 100000 in
/-- headcountref02.May: dyads that may not be. -/
theorem rMay_bad (w : World) (lo hi : Nat) (s : Bool) (A : Option Addr) (n c : Nat) (xs : List Int) (ex : Int) (hX : Ints w lo hi .u32 A n xs) (hhi : hi ≤ w.heap.size) (h : ¬ MayD s xs ex) :
    Calls Tryd.prog 82 #[.agg #[.bool s, .slice A n c, .int .i64 ex]] w fun e w' => e = .returned (.bool false) ∧ Below w.heap.size w w' := by
  have hL := Lib.hid hX.len
  have hX2 := hX.alloc hhi (.cells #[.bool s, .slice A n c, .int .i64 ex] 24)
  have hB := (Below.refl w.heap.size w).alloc (Nat.le_refl _) (.cells #[.bool s, .slice A n c, .int .i64 ex] 24)
  have hbig := hX.big
  rcases not_may h with hm | ⟨hm, hx⟩ | ⟨hm, h0, h1, hz, hx⟩ | ⟨hm, h0, h1, hz, hx⟩
  · clear h
    go_enter Tryd.func82, Tryd.ntmps82
    go_wp2_with fail
    refine (r1May_bad _ _ _ _ _ _ _ hX2 hm).mono ?_
    rintro e w1 ⟨rfl, rfl⟩
    clear hm
    by_cases hn0 : n = 0
    · subst hn0
      go_wp2
      go_ret
      exact ⟨rfl, hB⟩
    · have hn1 : ((n : Int) == 0) = false := by simp; omega
      go_wp2
      go_ret
      exact ⟨rfl, hB⟩
  · clear h
    have hn1 : n ≠ 0 → ((n : Int) == 0) = false := fun h => by simp; omega
    rcases hx with hx | hx
    all_goals
      by_cases hn0 : n = 0
      · subst hn0
        clear hn1
        go_enter Tryd.func82, Tryd.ntmps82
        go_wp2_with fail
        refine (r1May_ok _ _ _ _ _ _ _ hX2 hm).mono ?_
        rintro e w1 ⟨rfl, rfl⟩
        clear hm
        go_wp2
        go_ret
        exact ⟨rfl, hB⟩
      · have hn2 := hn1 hn0
        clear hn1
        go_enter Tryd.func82, Tryd.ntmps82
        go_wp2_with fail
        refine (r1May_ok _ _ _ _ _ _ _ hX2 hm).mono ?_
        rintro e w1 ⟨rfl, rfl⟩
        clear hm
        go_wp2
        go_ret
        exact ⟨rfl, hB⟩
  · clear h
    subst hz
    obtain rfl : n = 0 := by have := hL.out; simp at this; omega
    by_cases hx0 : ex = 0
    · subst hx0
      obtain rfl : s = true := hx.resolve_left (fun h => h rfl)
      clear hx
      go_enter Tryd.func82, Tryd.ntmps82
      go_wp2_with fail
      refine (r1May_ok _ _ _ _ _ _ _ hX2 hm).mono ?_
      rintro e w1 ⟨rfl, rfl⟩
      clear hm
      go_wp2
      go_ret
      exact ⟨rfl, hB⟩
    · have hx1 : (ex != 0) = true := by simpa using hx0
      clear hx
      go_enter Tryd.func82, Tryd.ntmps82
      go_wp2_with fail
      refine (r1May_ok _ _ _ _ _ _ _ hX2 hm).mono ?_
      rintro e w1 ⟨rfl, rfl⟩
      clear hm
      go_wp2
      go_ret
      exact ⟨rfl, hB⟩
  · clear h
    have hn0 : 0 < n := by
      rcases Nat.eq_zero_or_pos n with h0 | h0
      · exact absurd (hX.zero h0) hz
      · exact h0
    obtain ⟨b, off, rfl, hcell⟩ := get hX2 hn0
    have g1 := hcell 0 hn0
    rw [Nat.add_zero] at g1
    have hn1 : ((n : Int) == 0) = false := by simp; omega
    obtain ⟨v0, v1⟩ := hX.u32 0
    clear hcell hz
    generalize xs[0]?.getD 0 = v at g1 hx v0 v1
    have hv : v % 2 = 0 := by omega
    have hx0 : (ex == 0) = false := by simp; omega
    clear hx
    go_enter Tryd.func82, Tryd.ntmps82
    go_wp2_with fail
    refine (r1May_ok _ _ _ _ _ _ _ hX2 hm).mono ?_
    rintro e w1 ⟨rfl, rfl⟩
    clear hm
    go_wp2
    go_ret
    exact ⟨rfl, hB⟩
end Dy
end Go.Proofs.YtbbnbgllgomolaaDoor
namespace Go.Proofs.YtbbnbgllgomolaaDoor
open Go.RowKit
namespace Dy
theorem Tryd.info58 : (Tryd.prog.info? 58).map (fun i => (i.zero, i.size, i.bytes)) = some (some (.int .u32 0), 1, 4) := by kernel_rfl
set_option maxHeartbeats 3200000 in
set_option maxRecDepth 100000 in
/-- headcountref01.Limbs. -/
theorem Limbs_any (w : World) (lo hi : Nat) (A : Option Addr) (n c : Nat) (xs : List Int) (hX : Ints w lo hi .u8 A n xs) (hdx : Dig 2 xs) (hnc : n ≤ c) (hhi : hi ≤ w.heap.size) (hn : n ≤ 1000000) (v : Nat) (hv : num 2 xs = v) :
    Calls Tryd.prog 93 #[.slice A n c] w fun e w' => ∃ A' n' c', e = .returned (.slice A' n' c') ∧ n' ≤ c' ∧ Below w.heap.size w w' ∧ Ints w' w.heap.size w'.heap.size .u32 A' n' (canon 4294967296 v) := by
  obtain ⟨i0, hi0, hz0, hz1, hz2⟩ := info_parts Tryd.info58
  go_enter Tryd.func93, Tryd.ntmps93
  go_wp2_with fail
  refine (Cut_any _ _ _ _ _ _ _ hX hdx hnc).mono ?_
  rintro e w1 ⟨⟨m, rfl, hmn, hI⟩, rfl⟩
  rw [hv] at hI
  clear hv hdx hX
  obtain ⟨ys, hys⟩ : ∃ ys, canon 2 v = ys := ⟨_, rfl⟩
  have hspec := canon_spec 2 v (by decide)
  rw [hys] at hspec hI
  obtain ⟨hdy, hcy, hvy⟩ := hspec
  have HL := Lib.hid hI.len
  have HV := Lib.hid hvy
  clear hys hvy
  go_wp2
  go_loopw [3, 4] (fun o i wr => ∃ j : Nat, ∃ out : List Int, i = .int .i64 ((32 * j : Nat) : Int) ∧ 32 * j ≤ m + 31 ∧ wr.ownsRow w1.heap.size 58 1 o j (out.map (Value.int .u32)) ∧ Dig 4294967296 out ∧ Hid (num 4294967296 out = num 2 (ys.take (32 * j))) ∧ Below w1.heap.size w1 wr)
    (fun _ i _ => m + 32 - (intOf i).toNat)
  case atStart => exact ⟨0, [], rfl, by omega, ⟨rfl, .inl ⟨rfl, rfl⟩⟩, fun x hx => (by simp at hx), by simp [Hid, num], Below.refl _ _⟩
  case round =>
    obtain ⟨j, out, rfl, hj, hown, hdo, hnum, hnx⟩ := hrel
    obtain ⟨wo, rfl⟩ : ∃ wo : World, wo = wr := ⟨_, rfl⟩
    by_cases hlt : 32 * j < m
    · by_cases htp : m ≤ 32 * j + 32
      · have hI2 := hI.below hnx hhi
        obtain ⟨bb, off, rfl, hcell⟩ := get hI2 (by omega)
        clear hI2
        have htop : m ≤ ys.length := by rw [HL.out]; omega
        go_wp2
        go_loopw [5, 6] (fun nn kv wr' => ∃ k r : Nat, kv = .int .i64 ((k : Int) - 1) ∧ nn = .int .u32 r ∧ 32 * j ≤ k ∧ k ≤ m ∧ Hid (num 2 (part ys k (m)) = r) ∧ wr' = wo) (fun _ kv _ => (intOf kv + 1).toNat)
        case atStart => exact ⟨m, 0, by first | rfl | (congr 1; omega) | (congr 1; push_cast; omega), rfl, by omega, Nat.le_refl _, by rw [Hid, part_none]; rfl, rfl⟩
        case round =>
          obtain ⟨k, r, rfl, rfl, hk1, hk2, hr, rfl⟩ := hrel
          have hr1 := part_lt (B := 2) (by decide) hdy (i := k) (t := m) (k := 32) (by omega)
          rw [hr.out] at hr1
          have hr2 : r ≤ 4294967295 := by omega
          clear hr1
          by_cases hkl : 32 * j < k
          · obtain ⟨k, rfl⟩ : ∃ k', k = k' + 1 := ⟨k - 1, by omega⟩
            have ek : ((k + 1 : Nat) : Int) - 1 = (k : Int) := by omega
            rw [ek]
            obtain ⟨p, hp, hp1⟩ := bit_nat hdy k
            have g1 : wr.cell? ⟨bb, off + k, none⟩ = some (.int .u8 (ys[k]?.getD 0)) := hcell k (by omega)
            rw [hp] at g1
            have hst := part_step 2 ys (i := k) (t := m) (by omega) htop
            rw [hp, hr.out] at hst
            have hr3 := part_lt (B := 2) (by decide) hdy (i := k) (t := m) (k := 32) (by omega)
            rw [hst] at hr3
            have hr4 : 2 * (r : Int) + (p : Int) ≤ 4294967295 := by simp only [Int.toNat_natCast] at hr3; omega
            have HST := Lib.hid hst
            clear hst hr3 hp ek
            go_wp2
            go_roundw
            case rel => exact ⟨k, p + 2 * r, by first | rfl | (congr 1; omega), by congr 1; push_cast; omega, by omega, by omega, by have := HST.out; simpa [Hid] using this, by trivial⟩
            case measure => first | (simp [intOf]; done) | (simp [intOf]; omega)
          · obtain rfl : k = 32 * j := by omega
            have hol : out.length = j := by have := hown.1; simpa using this
            have hnum2 : Hid (num 4294967296 (out ++ [(r : Int)]) = num 2 (ys.take (32 * (j + 1)))) := by
              have e1 : ys.take (32 * (j + 1)) = ys.take (m) := by
                first
                  | rfl
                  | (congr 1; done)
                  | (rw [List.take_of_length_le (by rw [HL.out]; omega), List.take_of_length_le (by rw [HL.out]; omega)])
              rw [Hid, e1, part_split 2 ys (i := 32 * j) (t := m) (by omega) (by rw [HL.out]; omega), num_append, hol, hnum.out, hr.out, Nat.pow_mul]
              simp [num]
            have hdo2 : Dig 4294967296 (out ++ [(r : Int)]) := fun x hx => by
              rcases List.mem_append.1 hx with h' | h'
              · exact hdo x h'
              · rw [List.mem_singleton.1 h']
                omega
            clear hol hnum hr
            go_wp2_with (first
              | (at_builtin; refine wpList_append_raw _ rfl (.tmp 34) (.tmp 36) 22 rfl w1.heap.size 58 i0 (.int .u32 0) 1 4 Tryd.underlying22 hi0 hz0 hz1 hz2 rfl (by decide) _ _ _ rfl (hown.alloc _) _ _ _ 1 1 [.int .u32 r] rfl (raw_one _ _ _ _) ?d1 ?d2 ?d3 ?d4 ?_))
            case d1 => first | rfl | (intro u hu; simp at hu; subst hu; rfl)
            case d2 => unfold maxLen; omega
            case d3 => omega
            case d4 => have := hnx.size; simp; omega
            intro A2 c2 w3 hown2 hgrow2 _
            have hnx2 : Below w1.heap.size w1 w3 := (hnx.alloc hnx.size _).grown hgrow2 (by have := hnx.size; simp; omega) (fun q hq => (hown.lt q hq).1)
            have hown3 : w3.ownsRow w1.heap.size 58 1 (.slice A2 (j + 1) c2) (j + 1) ((out ++ [(r : Int)]).map (Value.int .u32)) := by simpa using hown2
            clear hown2 hgrow2 hown
            go_wp2
            go_roundw
            case rel => exact ⟨j + 1, _, by first | rfl | (congr 1; done) | (congr 1; push_cast; omega), by omega, hown3, hdo2, hnum2, hnx2⟩
            case measure => simp [intOf]; omega
      · have hI2 := hI.below hnx hhi
        obtain ⟨bb, off, rfl, hcell⟩ := get hI2 (by omega)
        clear hI2
        have htop : 32 * j + 32 ≤ ys.length := by rw [HL.out]; omega
        go_wp2
        go_loopw [5, 6] (fun nn kv wr' => ∃ k r : Nat, kv = .int .i64 ((k : Int) - 1) ∧ nn = .int .u32 r ∧ 32 * j ≤ k ∧ k ≤ 32 * j + 32 ∧ Hid (num 2 (part ys k (32 * j + 32)) = r) ∧ wr' = wo) (fun _ kv _ => (intOf kv + 1).toNat)
        case atStart => exact ⟨32 * j + 32, 0, by first | rfl | (congr 1; omega) | (congr 1; push_cast; omega), rfl, by omega, Nat.le_refl _, by rw [Hid, part_none]; rfl, rfl⟩
        case round =>
          obtain ⟨k, r, rfl, rfl, hk1, hk2, hr, rfl⟩ := hrel
          have hr1 := part_lt (B := 2) (by decide) hdy (i := k) (t := 32 * j + 32) (k := 32) (by omega)
          rw [hr.out] at hr1
          have hr2 : r ≤ 4294967295 := by omega
          clear hr1
          by_cases hkl : 32 * j < k
          · obtain ⟨k, rfl⟩ : ∃ k', k = k' + 1 := ⟨k - 1, by omega⟩
            have ek : ((k + 1 : Nat) : Int) - 1 = (k : Int) := by omega
            rw [ek]
            obtain ⟨p, hp, hp1⟩ := bit_nat hdy k
            have g1 : wr.cell? ⟨bb, off + k, none⟩ = some (.int .u8 (ys[k]?.getD 0)) := hcell k (by omega)
            rw [hp] at g1
            have hst := part_step 2 ys (i := k) (t := 32 * j + 32) (by omega) htop
            rw [hp, hr.out] at hst
            have hr3 := part_lt (B := 2) (by decide) hdy (i := k) (t := 32 * j + 32) (k := 32) (by omega)
            rw [hst] at hr3
            have hr4 : 2 * (r : Int) + (p : Int) ≤ 4294967295 := by simp only [Int.toNat_natCast] at hr3; omega
            have HST := Lib.hid hst
            clear hst hr3 hp ek
            go_wp2
            go_roundw
            case rel => exact ⟨k, p + 2 * r, by first | rfl | (congr 1; omega), by congr 1; push_cast; omega, by omega, by omega, by have := HST.out; simpa [Hid] using this, by trivial⟩
            case measure => first | (simp [intOf]; done) | (simp [intOf]; omega)
          · obtain rfl : k = 32 * j := by omega
            have hol : out.length = j := by have := hown.1; simpa using this
            have hnum2 : Hid (num 4294967296 (out ++ [(r : Int)]) = num 2 (ys.take (32 * (j + 1)))) := by
              have e1 : ys.take (32 * (j + 1)) = ys.take (32 * j + 32) := by
                first
                  | rfl
                  | (congr 1; done)
                  | (rw [List.take_of_length_le (by rw [HL.out]; omega), List.take_of_length_le (by rw [HL.out]; omega)])
              rw [Hid, e1, part_split 2 ys (i := 32 * j) (t := 32 * j + 32) (by omega) (by rw [HL.out]; omega), num_append, hol, hnum.out, hr.out, Nat.pow_mul]
              simp [num]
            have hdo2 : Dig 4294967296 (out ++ [(r : Int)]) := fun x hx => by
              rcases List.mem_append.1 hx with h' | h'
              · exact hdo x h'
              · rw [List.mem_singleton.1 h']
                omega
            clear hol hnum hr
            go_wp2_with (first
              | (at_builtin; refine wpList_append_raw _ rfl (.tmp 34) (.tmp 36) 22 rfl w1.heap.size 58 i0 (.int .u32 0) 1 4 Tryd.underlying22 hi0 hz0 hz1 hz2 rfl (by decide) _ _ _ rfl (hown.alloc _) _ _ _ 1 1 [.int .u32 r] rfl (raw_one _ _ _ _) ?f1 ?f2 ?f3 ?f4 ?_))
            case f1 => first | rfl | (intro u hu; simp at hu; subst hu; rfl)
            case f2 => unfold maxLen; omega
            case f3 => omega
            case f4 => have := hnx.size; simp; omega
            intro A2 c2 w3 hown2 hgrow2 _
            have hnx2 : Below w1.heap.size w1 w3 := (hnx.alloc hnx.size _).grown hgrow2 (by have := hnx.size; simp; omega) (fun q hq => (hown.lt q hq).1)
            have hown3 : w3.ownsRow w1.heap.size 58 1 (.slice A2 (j + 1) c2) (j + 1) ((out ++ [(r : Int)]).map (Value.int .u32)) := by simpa using hown2
            clear hown2 hgrow2 hown
            go_wp2
            go_roundw
            case rel => exact ⟨j + 1, _, by first | rfl | (congr 1; done) | (congr 1; push_cast; omega), by omega, hown3, hdo2, hnum2, hnx2⟩
            case measure => simp [intOf]; omega
    · obtain ⟨A2, c2, rfl, hc2, _⟩ := own_shape hown
      have hol : out.length = j := by have := hown.1; simpa using this
      have hend : num 4294967296 out = v := by rw [hnum.out, List.take_of_length_le (by rw [HL.out]; omega), HV.out]
      have hcut : Cutd out := cutd_of_ge (by decide) hdo fun hne => by
        have hj0 : 0 < j := by rw [← hol]; exact List.length_pos_iff.2 hne
        have hyne : ys ≠ [] := fun e => by have := HL.out; rw [e] at this; simp at this; omega
        have h1 := num_ge hdy hcy hyne
        rw [HV.out, HL.out] at h1
        rw [hend, hol]
        have h2 : (4294967296 : Nat) ^ (j - 1) = 2 ^ (32 * (j - 1)) := by rw [Nat.pow_mul]
        have h3 : 2 ^ (32 * (j - 1)) ≤ 2 ^ (m - 1) := Nat.pow_le_pow_right (by decide) (by omega)
        omega
      have hcan := canon_of (by decide) hdo hcut hend
      have hwf : ∀ x ∈ out, IntKind.u32.min ≤ x ∧ x ≤ IntKind.u32.max := fun x hx => by
        have h1 := hdo x hx
        have h2 : 0 ≤ x ∧ x ≤ 4294967295 := by omega
        simpa [IntKind.min, IntKind.max, IntKind.signed, IntKind.bits] using h2
      have hI2 := Ints.of_own hown hwf (by omega)
      rw [hcan] at hI2
      clear hown hnum hol hend hcut hcan hwf
      go_wp2
      go_ret
      exact ⟨A2, j, c2, rfl, hc2, hnx, hI2⟩
end Dy
end Go.Proofs.YtbbnbgllgomolaaDoor
