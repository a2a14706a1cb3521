/- DescTotal: the walk. -/
/- The reference's sorting: a walk. -/
/- Order and the best ones, whatever the answer; the reference's too: walks. -/
/- Caches: plain laws, no program in sight. -/
/- Caches: new ones; lists laid end to end: walks. -/
/- Lists laid end to end; the best ones of other nodes: walks. -/
/- The best ones of other nodes; whether a cache may be: walks. -/
/- Plain laws of lists that rise, and of how they are joined: no program in sight. -/
import Derived.Test.YtmbppgjhdcmckaaGreatDoorBi14
import Derived.Deep.RegionLaw
import Derived.Test.YtmbppgjhdcmckaaGreatDoorBi12
import Derived.Test.YtmbppgjhdcmckaaGreatDoorCaShelfZ
namespace Go.Proofs.YtmbppgjhdcmckaaGreatDoor
open Go.RowKit Go.Sort Go.Shelf
namespace De
/-- What Fresher answers. -/
def fr (a b : Int × Int) : Bool × Int := if (may a && may b) = true then (ltB a b, 0) else (false, 8)
end De
end Go.Proofs.YtmbppgjhdcmckaaGreatDoor
namespace Go.Proofs.YtmbppgjhdcmckaaGreatDoor
open Go.RowKit Go.Sort Go.Shelf
theorem heap_newg (w : World) (o : Obj) (g : Nat) (h : g = w.heap.size) : (w.alloc o).heap[g]? = some o := by
 subst h
 exact heap_alloc_new w o
namespace De
end De
end Go.Proofs.YtmbppgjhdcmckaaGreatDoor
namespace Go.Proofs.YtmbppgjhdcmckaaGreatDoor
open Go.RowKit Go.Sort Go.Shelf
namespace De
def resB (xs : List (Int × Int)) : List (Int × Int) := if check xs = 0 then best xs else []
/-- A list and a code are handed back, in memory of the call's own. -/
def LstPost (w : World) (ys : List (Int × Int)) (r : Int) (e : Ending) (w' : World) : Prop :=
 ∃ A' n' c' rb, e = .returned (.tuple #[.slice A' n' c', .int .i64 r]) ∧ n' ≤ c' ∧ Below w.heap.size w w' ∧ (0 < n' → w.heap.size ≤ rb) ∧ rb < w'.heap.size ∧ Descs w' rb (rb + 1) A' n' ys
theorem Best_any (w : World) (lo hi : Nat) (A : Option Addr) (n c : Nat) (xs : List (Int × Int)) (hX : Descs w lo hi A n xs) (hhi : hi ≤ w.heap.size) (h0 : 0 < w.heap.size) (r : Int) (hr : check xs = r) :
  Calls Tryz.prog 194 #[.slice A n c] w (LstPost w (resB xs) r) := by
 by_cases hz : r = 0
 · subst hz
   refine (Best_ok w lo hi A n c xs hX hhi h0 hr).mono fun e w' ⟨A', n', c', rb, he, hc, hb, h1, h2, hD⟩ => ⟨A', n', c', rb, he, hc, hb, h1, h2, ?_⟩
   rw [resB, if_pos hr]
   exact hD
 · refine (Best_bad w lo hi A n c xs hX hhi h0 r hr (by simpa using hz)).mono fun e w' ⟨he, hb⟩ => ⟨none, 0, 0, 0, he, Nat.le_refl _, hb, fun h => absurd h (by omega), by have := hb.size; omega, ?_⟩
   rw [resB, if_neg (by rw [hr]; exact hz)]
   exact Descs.nil_ ..
end De
end Go.Proofs.YtmbppgjhdcmckaaGreatDoor
namespace Go.Proofs.YtmbppgjhdcmckaaGreatDoor
namespace De
/-- Those of other nodes. -/
def others (own : Int) (l : List D) : List D := l.filter fun d => d.1 != own
theorem others_len (own : Int) (l : List D) : (others own l).length ≤ l.length := List.length_filter_le _ _
/-- What a cache takes in. -/
def taken (own : Int) (cap : Nat) (l : List D) : List D := (best (others own l)).take cap
def newOk (own cap : Int) : Bool := decide (0 ≤ own) && (decide (own < 8) && (decide (1 ≤ cap) && decide (cap ≤ 6)))
theorem newOk_iff (own cap : Int) : newOk own cap = true ↔ 0 ≤ own ∧ own < 8 ∧ 1 ≤ cap ∧ cap ≤ 6 := by simp [newOk]
/-- May a cache be? -/
def mayC (own cap : Int) (l : List D) : Bool := newOk own cap && (decide ((l.length : Int) ≤ cap) && (check l == 0 && best (others own l) == l))
structure MayC (own cap : Int) (l : List D) : Prop where
 new : newOk own cap = true
 len : (l.length : Int) ≤ cap
 chk : check l = 0
 bst : best (others own l) = l
theorem mayC_iff (own cap : Int) (l : List D) : mayC own cap l = true ↔ MayC own cap l := by
 simp only [mayC, Bool.and_eq_true, decide_eq_true_eq, beq_iff_eq]
 exact ⟨fun ⟨a, b, c, d⟩ => ⟨a, b, c, d⟩, fun ⟨a, b, c, d⟩ => ⟨a, b, c, d⟩⟩
theorem bst_others {own : Int} {l : List D} (h : best (others own l) = l) : others own l = l := by
 have h1 := best_len (others own l)
 rw [h] at h1
 exact (List.filter_sublist).eq_of_length (by have := others_len own l; unfold others at *; omega)
def told (own now : Int) (l : List D) : List D := srt ((own, now) :: l)
end De
end Go.Proofs.YtmbppgjhdcmckaaGreatDoor
namespace Go.Proofs.YtmbppgjhdcmckaaGreatDoor
open Go.RowKit Go.Sort Go.Shelf
namespace De
/-- What New answers. -/
def newR (own cap : Int) : (Int × Int) × Int := if newOk own cap = true then ((own, cap), 0) else ((0, 0), 2)
set_option maxHeartbeats 800000 in
/-- cache.New. -/
theorem New_any (w : World) (own cap : Int) (x y r : Int) (hr : newR own cap = ((x, y), r)) :
  Calls Tryz.prog 49 #[.int .i64 own, .int .i64 cap] w fun e w' => e = .returned (.tuple #[.agg #[.int .i64 x, .int .i64 y, .slice none 0 0], .int .i64 r]) ∧ Gr w w' := by
 have HR := Lib.hid hr
 clear hr
 by_cases h1 : 0 ≤ own
 · by_cases h2 : own < 8
   · by_cases h3 : 1 ≤ cap
     · by_cases h4 : cap ≤ 6
       · have e : ((x, y), r) = ((own, cap), (0 : Int)) := by rw [← HR.out, newR, if_pos ((newOk_iff own cap).2 ⟨h1, h2, h3, h4⟩)]
         obtain ⟨e1, rfl⟩ := Prod.mk.inj e
         obtain ⟨rfl, rfl⟩ := Prod.mk.inj e1
         clear e e1 HR
         go_enter Tryz.func49, Tryz.ntmps49
         go_wp2
         exact bodyPost_ret (v := .tuple #[.agg #[.int .i64 x, .int .i64 y, .slice none 0 0], .int .i64 0]) (by simp [results, Tryz.results49, go_sem]) rfl ⟨rfl, Gr.alloc (Gr.refl _) _⟩
       · have e : ((x, y), r) = (((0 : Int), (0 : Int)), (2 : Int)) := by rw [← HR.out, newR, if_neg (fun h => by have := (newOk_iff own cap).1 h; omega)]
         obtain ⟨e1, rfl⟩ := Prod.mk.inj e
         obtain ⟨rfl, rfl⟩ := Prod.mk.inj e1
         clear e e1 HR
         go_enter Tryz.func49, Tryz.ntmps49
         go_wp2
         exact bodyPost_ret (v := .tuple #[.agg #[.int .i64 0, .int .i64 0, .slice none 0 0], .int .i64 2]) (by simp [results, Tryz.results49, go_sem]) rfl ⟨rfl, Gr.alloc (Gr.refl _) _⟩
     · have e : ((x, y), r) = (((0 : Int), (0 : Int)), (2 : Int)) := by rw [← HR.out, newR, if_neg (fun h => by have := (newOk_iff own cap).1 h; omega)]
       obtain ⟨e1, rfl⟩ := Prod.mk.inj e
       obtain ⟨rfl, rfl⟩ := Prod.mk.inj e1
       clear e e1 HR
       go_enter Tryz.func49, Tryz.ntmps49
       go_wp2
       exact bodyPost_ret (v := .tuple #[.agg #[.int .i64 0, .int .i64 0, .slice none 0 0], .int .i64 2]) (by simp [results, Tryz.results49, go_sem]) rfl ⟨rfl, Gr.alloc (Gr.refl _) _⟩
   · have e : ((x, y), r) = (((0 : Int), (0 : Int)), (2 : Int)) := by rw [← HR.out, newR, if_neg (fun h => by have := (newOk_iff own cap).1 h; omega)]
     obtain ⟨e1, rfl⟩ := Prod.mk.inj e
     obtain ⟨rfl, rfl⟩ := Prod.mk.inj e1
     clear e e1 HR
     go_enter Tryz.func49, Tryz.ntmps49
     go_wp2
     exact bodyPost_ret (v := .tuple #[.agg #[.int .i64 0, .int .i64 0, .slice none 0 0], .int .i64 2]) (by simp [results, Tryz.results49, go_sem]) rfl ⟨rfl, Gr.alloc (Gr.refl _) _⟩
 · have e : ((x, y), r) = (((0 : Int), (0 : Int)), (2 : Int)) := by rw [← HR.out, newR, if_neg (fun h => by have := (newOk_iff own cap).1 h; omega)]
   obtain ⟨e1, rfl⟩ := Prod.mk.inj e
   obtain ⟨rfl, rfl⟩ := Prod.mk.inj e1
   clear e e1 HR
   go_enter Tryz.func49, Tryz.ntmps49
   go_wp2
   exact bodyPost_ret (v := .tuple #[.agg #[.int .i64 0, .int .i64 0, .slice none 0 0], .int .i64 2]) (by simp [results, Tryz.results49, go_sem]) rfl ⟨rfl, Gr.alloc (Gr.refl _) _⟩
set_option maxHeartbeats 400000 in
/-- cache.best's closure: is one of the cache's own node? -/
theorem isOwn_any (w : World) (x y own : Int) (kb : Nat) (hk : w.cell? ⟨kb, 0, none⟩ = some (.int .i64 own)) (hlt : kb < w.heap.size) (b : Bool) (hb : (x == own) = b) :
  Calls Tryz.prog 197 #[.agg #[.int .i64 x, .int .i64 y], .pointer (some ⟨kb, 0, none⟩)] w fun e w' => e = .returned (.bool b) ∧ Gr w w' := by
 have HB := Lib.hid hb
 have hk2 : (w.alloc (.cells #[.int .i64 x, .int .i64 y] 195)).cell? ⟨kb, 0, none⟩ = some (.int .i64 own) := (World.cell?_alloc_lt _ _ _ (show kb < w.heap.size from hlt)).trans hk
 clear hb
 go_enter Tryz.func197, Tryz.ntmps197
 go_wp2
 go_ret
 exact ⟨by rw [← HB.out]; rfl, Gr.alloc (Gr.refl _) _⟩
theorem own_pred (base rb kb : Nat) (own : Int) (hne : kb ≠ rb) : PredS 197 #[.pointer (some ⟨kb, 0, none⟩)] base rb none (fun W (_ : Unit) => W.cell? ⟨kb, 0, none⟩ = some (.int .i64 own) ∧ kb < W.heap.size) (fun _ => True) (fun _ x => x.1 == own) (fun _ _ => ()) where
 enters := enters_of Tryz.func197 (by kernel_rfl) rfl
 row_ _ h := by cases h
 lt _ _ _ h _ := by cases h
 call W s x _ _ hi _ _ := (isOwn_any W x.1 x.2 own kb hi.1 hi.2 _ rfl).mono fun e w' ⟨he, hg⟩ => ⟨he, ⟨Below.keepCell hg.below hi.2 hi.1, Nat.lt_of_lt_of_le hi.2 hg.below.size⟩, grown_of_below hg.below (Nat.le_refl _) _⟩
 alloc W s o hi := ⟨(World.cell?_alloc_lt _ _ _ (show kb < W.heap.size from hi.2)).trans hi.1, by simp; omega⟩
 set_ W s q v hq hi := ⟨(World.cell?_setCell_other _ _ _ _ (fun e => hne (by rw [← hq, e]))).trans hi.1, by simpa [World.setCell] using hi.2⟩
theorem delF_own (own : Int) : ∀ (l : List (Int × Int)), delF (fun (_ : Unit) x => x.1 == own) (fun _ _ => ()) () l = others own l
 | [] => rfl
 | x :: l => by
  simp only [delF, others]
  by_cases h : (x.1 == own) = true
  · rw [if_pos h, delF_own own l, List.filter_cons_of_neg (by simpa using h)]
    rfl
  · rw [if_neg h, delF_own own l, List.filter_cons_of_pos (by simpa using h)]
    rfl
end De
end Go.Proofs.YtmbppgjhdcmckaaGreatDoor
namespace Go.Proofs.YtmbppgjhdcmckaaGreatDoor
open Go.RowKit Go.Sort Go.Shelf
namespace De
def sumN (n : Nat → Nat) : Nat → Nat
 | 0 => 0
 | j + 1 => sumN n j + n j
def catN (xs : Nat → List (Int × Int)) : Nat → List (Int × Int)
 | 0 => []
 | j + 1 => catN xs j ++ xs j
theorem sumN_le (n : Nat → Nat) : ∀ (k j : Nat), j ≤ k → sumN n j ≤ sumN n k
 | 0, j, h => by
  obtain rfl : j = 0 := by omega
  exact Nat.le_refl _
 | k + 1, j, h => by
  by_cases e : j = k + 1
  · rw [e]; exact Nat.le_refl _
  · have := sumN_le n k j (by omega)
    simp only [sumN]
    omega
set_option maxHeartbeats 400000 in
/-- slices.Grow of nil. -/
theorem Grow_nil (w : World) (n : Nat) (hn : n ≤ 1000000) :
  Calls Tryz.prog 207 #[.slice none 0 0, .int .i64 n] w fun e w' => ∃ A' c', e = .returned (.slice A' 0 c') ∧ Below w.heap.size w w' ∧ w'.ownsRow w.heap.size 195 2 (.slice A' 0 c') 0 [] := by
 obtain ⟨i0, hi0, hz0, hz1, hz2⟩ := info_parts Tryz.info195
 by_cases h0 : n = 0
 · subst h0
   go_enter Tryz.func207, Tryz.ntmps207
   go_wp2
   go_ret
   exact ⟨none, 0, rfl, Below.refl _ _, World.ownsRow_nil _ _ _ _⟩
 · have h := Any8.slices_Grow_grow (P := Tryz.prog) (ρ := Tryz.growD_ren) Tryz.growD i0 _ hi0 hz0 (by omega) none 0 0 n [] w (Nat.le_refl _) (by omega) (by rw [hz2]; omega) (by omega) (by simp) (fun _ => rfl) (fun a h => by cases h)
   refine h.mono ?_
   rintro e w' ⟨rfl, rfl⟩
   have hge := grownCap_ge w (0 + n) 0 (Tryz.growD_ren.t 25)
   have hle := grownCap_le_maxLen w (0 + n) 0 (Tryz.growD_ren.t 25) (by unfold maxLen; omega)
   refine ⟨_, _, rfl, ((Below.refl _ w).drew).alloc (Nat.le_refl _) _, by simp, .inr ⟨w.heap.size, _, _, rfl, Nat.le_refl _, heap_newg _ _ _ rfl, Nat.zero_le _, hle, ?_, by simp⟩⟩
   rw [Nat.zero_add] at *
   simp [Builtin.zeroCells, Value.cells]
   omega
set_option maxHeartbeats 1600000 in
set_option maxRecDepth 100000 in
/-- slices.Concat. -/
theorem Concat_any (w : World) (g k : Nat) (A : Nat → Option Addr) (n c : Nat → Nat) (xs : Nat → List (Int × Int)) (hg : g < w.heap.size) (hL : ∀ j, j < k → w.cell? ⟨g, j, none⟩ = some (.slice (A j) (n j) (c j)))
  (hD : ∀ j, j < k → Descs w 0 w.heap.size (A j) (n j) (xs j)) (hk : k ≤ 1000) (hb : sumN n k ≤ 1000000) :
  Calls Tryz.prog 196 #[.slice (some ⟨g, 0, none⟩) k k] w fun e w' => ∃ A' c', e = .returned (.slice A' (sumN n k) c') ∧ sumN n k ≤ c' ∧ Below w.heap.size w w' ∧ w'.ownsRow w.heap.size 195 2 (.slice A' (sumN n k) c') (sumN n k) (flatD (catN xs k)) := by
 obtain ⟨i0, hi0, hz0, hz1, hz2⟩ := info_parts Tryz.info195
 have HL := Lib.hid hL
 have HD := Lib.hid hD
 clear hL hD
 go_enter Tryz.func196, Tryz.ntmps196
 go_wp2
 go_loopw [3, 5, 11] (fun sv _ iv wr => ∃ j s : Nat, iv = .int .i64 j ∧ j ≤ k ∧ sv = .int .i64 s ∧ Hid (sumN n j = s) ∧ wr = w) (fun _ _ iv _ => k - (intOf iv).toNat)
 case atStart => exact ⟨0, 0, rfl, Nat.zero_le _, rfl, rfl, rfl⟩
 case round =>
  obtain ⟨j, s, rfl, hj, rfl, hs, rfl⟩ := hrel
  by_cases hlt : j < k
  · have g1 := HL.out j hlt
    have hle := sumN_le n k (j + 1) (by omega)
    have hs2 : Hid (sumN n (j + 1) = s + n j) := by rw [Hid, sumN, hs.out]
    rw [hs2.out] at hle
    generalize hA : A j = Aj at g1
    generalize hn : n j = nj at g1 hs2 hle
    generalize hc : c j = cj at g1
    clear hA hn hc hs
    go_wp2
    go_roundw
    case rel => exact ⟨j + 1, s + nj, by go_num, by omega, by go_num, hs2, by trivial⟩
    case measure => simp [intOf]; omega
  · obtain rfl : j = k := by omega
    have hsk : s = sumN n j := hs.out.symm
    have hsb : s ≤ 1000000 := by omega
    have HSK := Lib.hid hsk
    clear hs hsk
    obtain ⟨wo, rfl⟩ : ∃ wo : World, wo = wr := ⟨_, rfl⟩
    go_wp2_with fail
    refine (Grow_nil _ s hsb).mono ?_
    rintro e w1 ⟨A1, c1, rfl, hb1, hown1⟩
    go_wp2
    go_loopw [6, 8, 27] (fun v _ iv wr => ∃ i s : Nat, iv = .int .i64 i ∧ i ≤ j ∧ Hid (sumN n i = s) ∧ wr.ownsRow wo.heap.size 195 2 v s (flatD (catN xs i)) ∧ Below wo.heap.size wo wr) (fun _ _ iv _ => j - (intOf iv).toNat)
    case atStart => exact ⟨0, 0, rfl, Nat.zero_le _, rfl, hown1, hb1⟩
    case round =>
     clear hown1 hb1
     obtain ⟨i, s', rfl, hi, hs, hown, hnx⟩ := hrel
     obtain ⟨Av, cv, rfl, hcv, _⟩ := own_shape hown
     by_cases hil : i < j
     · have g1 : wr.cell? ⟨g, i, none⟩ = _ := Below.keepCell hnx hg (HL.out i hil)
       have hDi := (HD.out i hil).below hnx (Nat.le_refl _)
       have hle := sumN_le n j (i + 1) (by omega)
       have hs2 : Hid (sumN n (i + 1) = s' + n i) := by rw [Hid, sumN, hs.out]
       have hcat : Hid (flatD (catN xs (i + 1)) = flatD (catN xs i) ++ flatD (xs i)) := by rw [Hid, catN, flatD_append]
       rw [hs2.out] at hle
       generalize A i = Ai at g1 hDi
       generalize n i = ni at g1 hs2 hle hDi
       generalize c i = ci at g1
       have hsz := hnx.size
       go_wp2_with (first
        | (at_builtin; refine wpList_append_raw _ rfl (.tmp 31) (.tmp 32) 57 rfl wo.heap.size 195 i0 _ 2 16 Tryz.underlying57 hi0 hz0 hz1 hz2 rfl (by decide) _ _ _ rfl hown _ _ _ ni _ _ rfl hDi.raw (flatD_one _) ?c2 ?c3 ?c4 ?_))
       case c2 => unfold maxLen; omega
       case c3 => omega
       case c4 => omega
       intro A2 c2 w2 hown2 hgrow2 _
       have hb2 : Below wo.heap.size wo w2 := hnx.grown hgrow2 (by omega) (fun q hq => (hown.lt q hq).1)
       rw [← hcat.out] at hown2
       clear hgrow2 hown hs g1 hDi
       go_wp2
       go_roundw
       case rel => exact ⟨i + 1, s' + ni, by go_num, by omega, hs2, hown2, hb2⟩
       case measure => simp [intOf]; omega
     · obtain rfl : i = j := by omega
       have e := hs.out
       subst e
       clear hs HSK
       go_wp2
       go_ret
       exact ⟨Av, cv, rfl, hcv, hnx, hown⟩
end De
end Go.Proofs.YtmbppgjhdcmckaaGreatDoor
namespace Go.Proofs.YtmbppgjhdcmckaaGreatDoor
open Go.RowKit Go.Sort Go.Shelf
namespace De
theorem catN_wf {xs : Nat → List (Int × Int)} : ∀ {k : Nat}, (∀ j, j < k → ∀ x ∈ xs j, Rng x) → ∀ x ∈ catN xs k, Rng x
 | 0, _, x, hx => by simp [catN] at hx
 | k + 1, h, x, hx => by
  rcases List.mem_append.1 hx with h1 | h1
  · exact catN_wf (fun j hj => h j (by omega)) x h1
  · exact h k (by omega) x h1
theorem exact_ne {w' : World} {A : Option Addr} {n : Nat} {xs : List (Int × Int)} {base kb : Nat} (h : Descs w' base w'.heap.size A n xs) (h0 : 0 < w'.heap.size) (hk : 0 < kb) (hkb : kb < base) : ∃ rb, (0 < n → base ≤ rb) ∧ rb < w'.heap.size ∧ kb ≠ rb ∧ Descs w' rb (rb + 1) A n xs := by
 by_cases hn : 0 < n
 · obtain ⟨rb, h1, h2, h3⟩ := h.exact (Nat.le_refl _) h0
   exact ⟨rb, fun _ => (h2 hn).1, h1, by have := (h2 hn).1; omega, h3⟩
 · obtain rfl : n = 0 := by omega
   have := h.zero rfl
   subst this
   exact ⟨0, fun h => absurd h (by omega), h0, by omega, Descs.nil_ ..⟩
set_option maxHeartbeats 800000 in
/-- cache.best. -/
theorem kbest_any (w : World) (h0 : 0 < w.heap.size) (own cap : Int) (A0 : Option Addr) (n0 c0 : Nat) (g k : Nat) (A : Nat → Option Addr) (n c : Nat → Nat) (xs : Nat → List (Int × Int)) (hg : g < w.heap.size) (hL : ∀ j, j < k → w.cell? ⟨g, j, none⟩ = some (.slice (A j) (n j) (c j)))
  (hD : ∀ j, j < k → Descs w 0 w.heap.size (A j) (n j) (xs j)) (hk : k ≤ 1000) (hb : sumN n k ≤ 1000000) (r : Int) (hr : check (others own (catN xs k)) = r) :
  Calls Tryz.prog 169 #[.agg #[.int .i64 own, .int .i64 cap, .slice A0 n0 c0], .slice (some ⟨g, 0, none⟩) k k] w (LstPost w (resB (others own (catN xs k))) r) := by
 have HR := Lib.hid hr
 have HWF := Lib.hid (catN_wf fun j hj => (hD j hj).wf)
 have hL1 : ∀ j, j < k → (w.alloc (.cells #[.int .i64 own, .int .i64 cap, .slice A0 n0 c0] 200)).cell? ⟨g, j, none⟩ = some (.slice (A j) (n j) (c j)) := fun j hj => (World.cell?_alloc_lt _ _ _ (show g < w.heap.size from hg)).trans (hL j hj)
 have hD1 : ∀ j, j < k → Descs (w.alloc (.cells #[.int .i64 own, .int .i64 cap, .slice A0 n0 c0] 200)) 0 (w.heap.size + 1) (A j) (n j) (xs j) := fun j hj => ((hD j hj).alloc (Nat.le_refl _) _).more (Nat.le_refl _) (by omega)
 have hcat := Concat_any (w.alloc (.cells #[.int .i64 own, .int .i64 cap, .slice A0 n0 c0] 200)) g k A n c xs (by simp; omega) hL1 (by simpa using hD1) hk hb
 have HC := Lib.hid hcat
 clear hr hL hD hL1 hD1 hcat
 generalize sumN n k = s at hb HC
 generalize catN xs k = ys at HC HR HWF
 go_enter Tryz.func169, Tryz.ntmps169
 go_wp2_with fail
 refine HC.out.mono ?_
 rintro e w1 ⟨A1, c1, rfl, hc1, hb1, hown1⟩
 have hs1 := hb1.size
 simp at hs1 hown1
 have hD1 := Descs.of_own hown1 HWF.out (by omega)
 have hown : w1.cell? ⟨w.heap.size, 0, none⟩ = some (.int .i64 own) := Below.keepCell hb1 (by simp) (by simp [go_sem])
 have hbw := ((Below.refl w.heap.size w).alloc (Nat.le_refl _) _).trans (hb1.mono (by simp))
 obtain ⟨rb, q1, q2, q3, hDe⟩ := exact_ne (kb := w.heap.size) hD1 (by omega) h0 (by omega)
 have hDF := DeleteFunc_any (own_pred (w.heap.size + 1) rb w.heap.size own q3) w1 () ⟨hown, by omega⟩ (by omega) q2 A1 s c1 q1 ys hDe (fun _ _ => trivial) hc1
 have HDF := Lib.hid hDF
 have hyl := Lib.hid hDe.len
 clear hown1 hb1 hD1 hDF hDe hown HC
 go_wp2_with fail
 refine HDF.out.mono ?_
 rintro e w2 ⟨m, rfl, hm, hb2, hD2⟩
 rw [delF_own] at hD2
 have hs2 := hb2.size
 have hmc : m ≤ c1 := by have := hyl.out; omega
 have hbw2 := hbw.trans (hb2.mono (by omega))
 clear hbw hb2 HDF
 go_wp2_with fail
 refine (Best_any _ _ _ A1 m c1 _ hD2 (by omega) (by omega) r HR.out).mono ?_
 rintro e w3 ⟨A3, n3, c3, r3, rfl, hc3, hb3, hr3, hr3', hD3⟩
 have hbw3 := hbw2.trans (hb3.mono (by omega))
 have hr4 : 0 < n3 → w.heap.size ≤ r3 := fun h => by have := hr3 h; omega
 clear hb3 hbw2 hD2 hr3
 go_wp2
 go_ret2
 exact ⟨A3, n3, c3, r3, rfl, hc3, hbw3, hr4, hr3', hD3⟩
theorem may_code {own cap : Int} {xs : List (Int × Int)} (h1 : newOk own cap = true) (h2 : (xs.length : Int) ≤ cap) : (check (others own xs) = 0 ∧ Sm (resB (others own xs)) xs = true) ↔ mayC own cap xs = true := by
 rw [mayC_iff]
 constructor
 · rintro ⟨h3, h4⟩
   have h5 : best (others own xs) = xs := by
    have := eq_of_beq h4
    rwa [resB, if_pos h3] at this
   exact ⟨h1, h2, by rw [← bst_others h5]; exact h3, h5⟩
 · rintro ⟨_, _, h3, h4⟩
   have h5 := bst_others h4
   have h6 : check (others own xs) = 0 := by rw [h5]; exact h3
   refine ⟨h6, ?_⟩
   rw [resB, if_pos h6, h4]
   exact beq_self_eq_true _
/-- kbest_any at one list. -/
theorem kbest_one (w : World) (h0 : 0 < w.heap.size) (own cap : Int) (A0 : Option Addr) (n0 c0 : Nat) (g : Nat) (A : Option Addr) (n c : Nat) (xs : List (Int × Int)) (hg : g < w.heap.size) (hL : w.cell? ⟨g, 0, none⟩ = some (.slice A n c))
  (hD : Descs w 0 w.heap.size A n xs) (hb : n ≤ 1000000) (r : Int) (hr : check (others own xs) = r) :
  Calls Tryz.prog 169 #[.agg #[.int .i64 own, .int .i64 cap, .slice A0 n0 c0], .slice (some ⟨g, 0, none⟩) 1 1] w (LstPost w (resB (others own xs)) r) := by
 have h := kbest_any w h0 own cap A0 n0 c0 g 1 (fun _ => A) (fun _ => n) (fun _ => c) (fun _ => xs) hg (fun j hj => by
   obtain rfl : j = 0 := by omega
   exact hL) (fun _ _ => hD) (by omega) (by simpa [sumN] using hb) r (by simpa [catN] using hr)
 simpa [catN] using h
/-- The three cells of a cache that lies in a block of its own. -/
theorem box3 {w w1 : World} {x y z : Value} {t : TypeId} (hb : Below (w.alloc (.cells #[x, y, z] t)).heap.size (w.alloc (.cells #[x, y, z] t)) w1) :
  (w1.cell? ⟨w.heap.size, 0, none⟩ = some x ∧ w1.cell? ⟨w.heap.size, 1, none⟩ = some y ∧ w1.cell? ⟨w.heap.size, 2, none⟩ = some z) ∧ w.heap.size < w1.heap.size ∧ Below w.heap.size w w1 := by
 have hs := hb.size
 simp at hs
 refine ⟨⟨?_, ?_, ?_⟩, by omega, ((Below.refl w.heap.size w).alloc (Nat.le_refl _) _).trans (hb.mono (by simp))⟩
 all_goals
  rw [hb.cell (by simp)]
  simp [go_sem]
set_option maxHeartbeats 1600000 in
/-- cache.Check. -/
theorem CheckC_any (w : World) (own cap : Int) (A : Option Addr) (n c : Nat) (xs : List (Int × Int)) (hX : Descs w 0 w.heap.size A n xs) (r : Int) (hr : (if mayC own cap xs = true then 0 else 8) = r) :
  Calls Tryz.prog 124 #[.agg #[.int .i64 own, .int .i64 cap, .slice A n c]] w fun e w' => e = .returned (.int .i64 r) ∧ Below w.heap.size w w' ∧ 0 < w'.heap.size := by
 have HR := Lib.hid hr
 have HL := Lib.hid hX.len
 have hbig := hX.big
 clear hr
 by_cases h1 : newOk own cap = true
 · have hnr : newR own cap = ((own, cap), 0) := by rw [newR, if_pos h1]
   have HN := Lib.hid hnr
   have H1 := Lib.hid h1
   have hc6 := ((newOk_iff own cap).1 h1).2.2
   clear h1 hnr
   by_cases h2 : (n : Int) ≤ cap
   · obtain ⟨q, hq⟩ : ∃ q, check (others own xs) = q := ⟨_, rfl⟩
     obtain ⟨b, hb⟩ : ∃ b, Sm (resB (others own xs)) xs = b := ⟨_, rfl⟩
     have hmc := may_code H1.out (xs := xs) (cap := cap) (by rw [HL.out]; exact h2)
     rw [hq, hb] at hmc
     have HQ := Lib.hid hq
     have HB := Lib.hid hb
     have HMC := Lib.hid hmc
     clear hq hb hmc
     go_enter Tryz.func124, Tryz.ntmps124
     go_wp2_with fail
     refine (New_any _ own cap own cap 0 HN.out).mono ?_
     rintro e w1 ⟨rfl, hg1⟩
     obtain ⟨⟨k1, k2, k3⟩, hs1, hb1⟩ := box3 hg1.below
     have hX1 := hX.below hb1 (Nat.le_refl _)
     clear hg1
     go_wp2_with fail
     have hb2 := (hb1.alloc (by omega) (.cells #[.int .i64 own, .int .i64 cap, .slice none 0 0] 59)).alloc (by simp; omega) (.cells #[.slice A n c] 57)
     have hX2 := (hX1.below ((Below.refl w1.heap.size w1).alloc (Nat.le_refl _) (.cells #[.int .i64 own, .int .i64 cap, .slice none 0 0] 59)) (by omega)).alloc (by simp; omega) (.cells #[.slice A n c] 57)
     refine (kbest_one _ (by simp) own cap A n c _ A n c xs (by simp) (by simp [go_sem]) (hX2.more (Nat.le_refl _) (by simp; omega)) (by omega) q HQ.out).mono ?_
     rintro e w2 ⟨A2, n2, c2, rb, rfl, hc2, hb3, hr2, hr3, hD2⟩
     have hs3 := hb3.size
     simp at hs3
     have hc := hb2.trans (hb3.mono (by simp; omega))
     have hX3 := hX.below hc (Nat.le_refl _)
     have m1 : w2.cell? ⟨w.heap.size, 2, none⟩ = some (.slice A n c) := Below.keepCell hb3 (by simp; omega) ((World.cell?_alloc_lt _ _ _ (show w.heap.size < _ by simp; omega)).trans ((World.cell?_alloc_lt _ _ _ (show w.heap.size < _ by omega)).trans k3))
     clear hb1 hb2 hb3 hX1 hX2 k1 k2 k3 hr2
     by_cases hq0 : q = 0
     · subst hq0
       go_wp2_with fail
       refine (Same_b _ _ _ _ _ A2 A n2 c2 n c _ xs hD2 hX3 b HB.out).mono ?_
       rintro e w3 ⟨rfl, hb⟩
       have hc3 := hc.trans (hb.mono (by omega))
       have hs4 := hb.size
       clear hb m1
       cases b with
       | true =>
        have e : r = 0 := by rw [← HR.out, if_pos (HMC.out.1 (by simp))]
        subst e
        go_wp2
        go_ret
        exact ⟨rfl, hc3, by omega⟩
       | false =>
        have e : r = 8 := by rw [← HR.out, if_neg (fun h => by have := HMC.out.2 h; simp at this)]
        subst e
        go_wp2
        go_ret
        exact ⟨rfl, hc3, by omega⟩
     · have e : r = 8 := by rw [← HR.out, if_neg (fun h => by have := HMC.out.2 h; exact hq0 this.1)]
       subst e
       have hne : (q != 0) = true := by simpa using hq0
       clear hq0
       go_wp2
       go_ret
       exact ⟨rfl, hc, by omega⟩
   · have e : r = 8 := by rw [← HR.out, if_neg (fun h => h2 (by rw [← HL.out]; exact ((mayC_iff own cap xs).1 h).len))]
     subst e
     go_enter Tryz.func124, Tryz.ntmps124
     go_wp2_with fail
     refine (New_any _ own cap own cap 0 HN.out).mono ?_
     rintro e w1 ⟨rfl, hg1⟩
     obtain ⟨⟨k1, k2, k3⟩, hs1, hb1⟩ := box3 hg1.below
     clear hg1
     go_wp2
     go_ret
     exact ⟨rfl, hb1.alloc (by omega) _, by simp⟩
 · have hnr : newR own cap = ((0, 0), 2) := by rw [newR, if_neg h1]
   have HN := Lib.hid hnr
   have e : r = 8 := by rw [← HR.out, if_neg (fun h => h1 ((mayC_iff own cap xs).1 h).new)]
   subst e
   clear h1 hnr
   go_enter Tryz.func124, Tryz.ntmps124
   go_wp2_with fail
   refine (New_any _ own cap 0 0 2 HN.out).mono ?_
   rintro e w1 ⟨rfl, hg1⟩
   obtain ⟨⟨k1, k2, k3⟩, hs1, hb1⟩ := box3 hg1.below
   clear hg1
   go_wp2
   go_ret
   exact ⟨rfl, hb1.alloc (by omega) _, by simp⟩
end De
end Go.Proofs.YtmbppgjhdcmckaaGreatDoor
namespace Go.Proofs.YtmbppgjhdcmckaaGreatDoor
namespace Least
def risesTo (xs : List Int) : Nat → Bool
 | 0 => true
 | k + 1 => risesTo xs k && (k == 0 || decide (xs[k-1]?.getD 0 < xs[k]?.getD 0))
def rises (xs : List Int) : Bool := risesTo xs xs.length
def checkCode (xs : List Int) : Int := if 8 < xs.length then 4 else if rises xs then 0 else 8
theorem risesTo_iff (xs : List Int) (k : Nat) : risesTo xs k = true ↔ ∀ j, 1 ≤ j → j < k → xs[j-1]?.getD 0 < xs[j]?.getD 0 := by
 induction k with
 | zero => simp [risesTo]
 | succ k ih =>
  simp only [risesTo, Bool.and_eq_true, Bool.or_eq_true, beq_iff_eq, decide_eq_true_eq, ih]
  constructor
  · rintro ⟨h1, h2⟩ j hj hk
    by_cases e : j = k
    · subst e; exact h2.resolve_left (by omega)
    · exact h1 j hj (by omega)
  · intro h
    refine ⟨fun j h1 h2 => h j h1 (by omega), ?_⟩
    by_cases e : k = 0
    · exact .inl e
    · exact .inr (h k (by omega) (by omega))
theorem risesTo_false {xs : List Int} {k n : Nat} (h : risesTo xs k = false) (hn : k ≤ n) : risesTo xs n = false := by
 rw [Bool.eq_false_iff] at h ⊢
 intro h2
 exact h ((risesTo_iff xs k).2 fun j h1 h3 => (risesTo_iff xs n).1 h2 j h1 (by omega))
theorem adj_pairwise : ∀ (xs : List Int), (∀ j, 1 ≤ j → j < xs.length → xs[j-1]?.getD 0 < xs[j]?.getD 0) → xs.Pairwise (· < ·)
 | [], _ => .nil
 | [x], _ => List.pairwise_singleton _ _
 | x :: y :: l, h => by
  have ht : (y :: l).Pairwise (· < ·) := adj_pairwise (y :: l) fun j h1 h2 => by
   have := h (j + 1) (by omega) (by simp at h2 ⊢; omega)
   obtain ⟨j, rfl⟩ : ∃ i, j = i + 1 := ⟨j - 1, by omega⟩
   simpa using this
  have hxy : x < y := by simpa using h 1 (by omega) (by simp)
  refine List.pairwise_cons.2 ⟨fun z hz => ?_, ht⟩
  rcases List.mem_cons.1 hz with rfl | hz
  · exact hxy
  · exact Int.lt_trans hxy (List.rel_of_pairwise_cons ht hz)
theorem rises_iff (xs : List Int) : rises xs = true ↔ xs.Pairwise (· < ·) := by
 unfold rises
 rw [risesTo_iff]
 constructor
 · exact adj_pairwise xs
 · intro h j h1 h2
   have := List.pairwise_iff_getElem.1 h (j - 1) j (by omega) h2 (by omega)
   simpa [List.getElem?_eq_getElem (show j - 1 < xs.length by omega), List.getElem?_eq_getElem h2] using this
theorem checkCode_ok {xs : List Int} (h : checkCode xs = 0) : xs.length ≤ 8 ∧ xs.Pairwise (· < ·) := by
 unfold checkCode at h
 split at h
 · omega
 · split at h
   · exact ⟨by omega, (rises_iff xs).1 (by assumption)⟩
   · omega
def guessS (xs : List Int) : Int := if xs.length < 8 then (xs.length : Int) else (30064771072 : Int) / (xs[(7 : Nat)]?.getD 0)
theorem seventh {xs : List Int} (h : checkCode xs = 0) (h8 : ¬ xs.length < 8) (h0 : ∀ x ∈ xs, 0 ≤ x) : 7 ≤ xs[(7 : Nat)]?.getD 0 := by
 obtain ⟨h1, h2⟩ := checkCode_ok h
 have hp := List.pairwise_iff_getElem.1 h2
 have e : xs.length = 8 := by omega
 have g : ∀ k : Nat, (hk : k < xs.length) → (k : Int) ≤ xs[k]'hk := by
  intro k
  induction k with
  | zero => intro hk; exact h0 _ (List.getElem_mem hk)
  | succ k ih => intro hk; have := ih (by omega); have := hp k (k + 1) (by omega) hk (by omega); push_cast; omega
 have := g 7 (by omega)
 rw [List.getElem?_eq_getElem (show 7 < xs.length by omega)]
 simpa using this
end Least
end Go.Proofs.YtmbppgjhdcmckaaGreatDoor