/- The reference's Formed: a walk (printed by a program of mine). -/
/- The reference's Minus and Add: walks (printed by a program of mine). -/
/- The parts of two masses, together: the iterator's contract (printed by a program of mine). -/
/- A mass's value and rows; mass.Check: a walk (printed by a program of mine). -/
/- mass.Same: a walk (printed by a program of mine). -/
/- mass.Twin: a walk (printed by a program of mine). -/
/- The law DyadSums: a walk (printed by a program of mine). -/
/- mass.each, with Add and with Sub: walks (printed by a program of mine). -/
import Derived.Test.YtbbnbgllgomolaaBq08
import Derived.Deep.DeepCutAuto
import Derived.Deep.CutRange
import Derived.Test.YtbbnbgllgomolaaBq03
import Derived.Test.YtbbnbgllgomolaaProg
import Derived.OrdersIn
import Derived.CallsIn
import Derived.Test.YtbbnbgllgomolaaBq07
import Derived.Test.YtbbnbgllgomolaaBq06
import Derived.Test.YtbbnbgllgomolaaBq05
namespace Go.Proofs.Ytbbnbgllgomolaa
open Go.RowKit
namespace Dy
open Dp
theorem canon2_cons {m : Nat} (h : m ≠ 0) : canon 2 m = ((m % 2 : Nat) : Int) :: canon 2 (m / 2) := by
  obtain ⟨d, c, n⟩ := canon_spec 2 (m / 2) (by decide)
  refine (canon_of (by decide) ?_ ?_ ?_).symm
  · intro x hx
    rcases List.mem_cons.1 hx with rfl | hx
    · exact ⟨by omega, by have := Nat.mod_lt m (show 0 < 2 by decide); omega⟩
    · exact d x hx
  · intro hne
    by_cases h0 : canon 2 (m / 2) = []
    · have := canon_nil (by decide) h0
      simp only [h0, List.getLast_singleton]
      omega
    · rw [List.getLast_cons h0]
      exact c h0
  · simp only [num, n, Int.toNat_natCast]
    omega
theorem strip_even {k m : Nat} (h : m % 2 = 0) : strip (k + 1) m = strip k (m / 2) := by simp [strip, h]
theorem strip_odd {k m : Nat} (h : m % 2 = 1) : strip (k + 1) m = (m, k + 1) := by simp [strip, h]
theorem mayD_iff {s : Bool} {m k : Nat} (h0 : m ≠ 0) (h1 : k = 0 ∨ m % 2 = 1) : MayD s (canon 4294967296 m) (k : Int) ↔ m < capD ∧ k ≤ 1024 := by
  constructor
  · intro h
    have hs := canon_spec 4294967296 m (by decide)
    have := (may_dn hs.1 h).1
    rw [hs.2.2] at this
    exact ⟨this.1, by have := this.2.1; simpa using this⟩
  · rintro ⟨h2, h3⟩
    exact dn_may (d := ⟨s, m, k⟩) ⟨h2, h3, fun h => absurd h h0, fun h => by have h' : 0 < k := h; show m % 2 = 1; omega⟩
theorem box_put {w : World} {g : Nat} {x y z : Value} {t : TypeId} (h : w.heap[g]? = some (.cells #[x, y, z] t (0, 0))) (x' y' z' : Value) : (((w.setCell ⟨g, 0, none⟩ x').setCell ⟨g, 1, none⟩ y').setCell ⟨g, 2, none⟩ z').heap[g]? = some (.cells #[x', y', z'] t (0, 0)) := by
  simp [World.setCell, Array.getElem?_modify, h]
theorem below_put {w0 w : World} {B g : Nat} (h : Below B w0 w) (hg : B ≤ g) (x' y' z' : Value) : Below B w0 (((w.setCell ⟨g, 0, none⟩ x').setCell ⟨g, 1, none⟩ y').setCell ⟨g, 2, none⟩ z') := ((h.setCell hg _).setCell hg _).setCell hg _
theorem ints_put {w : World} {lo hi : Nat} {k : IntKind} {A : Option Addr} {n : Nat} {xs : List Int} (h : Ints w lo hi k A n xs) {g : Nat} (hg : g < lo ∨ hi ≤ g) (x' y' z' : Value) : Ints (((w.setCell ⟨g, 0, none⟩ x').setCell ⟨g, 1, none⟩ y').setCell ⟨g, 2, none⟩ z') lo hi k A n xs := ints_far (ints_far (ints_far h hg _) hg _) hg _
theorem size_put {w : World} {g : Nat} (x' y' z' : Value) : (((w.setCell ⟨g, 0, none⟩ x').setCell ⟨g, 1, none⟩ y').setCell ⟨g, 2, none⟩ z').heap.size = w.heap.size := by simp [World.setCell]
theorem ints_tail {w : World} {lo hi : Nat} {k : IntKind} {A : Option Addr} {n : Nat} {x : Int} {xs : List Int} (h : Ints w lo hi k A n (x :: xs)) :
    n = xs.length + 1 ∧ ∃ b off, A = some ⟨b, off, none⟩ ∧ b < hi ∧ w.cell? ⟨b, off, none⟩ = some (.int k x) ∧ ∀ A', (n = 1 ∨ A' = some ⟨b, off + 1, none⟩) → Ints w lo hi k A' (n - 1) xs := by
  have hn : n = xs.length + 1 := by rw [← h.len]; rfl
  obtain ⟨b, off, e, h1, h2, hc⟩ := h.row (by omega)
  refine ⟨hn, b, off, e, h2, by simpa using (hc 0 (by omega)).1, fun A' hA => ⟨by omega, fun y hy => h.wf y (List.mem_cons_of_mem _ hy), by have := h.big; omega, fun h0 => ?_⟩⟩
  obtain rfl := hA.resolve_left (by omega)
  refine ⟨b, off + 1, rfl, h1, h2, fun j hj => ?_⟩
  have := hc (j + 1) (by omega)
  rw [show off + (j + 1) = off + 1 + j by omega] at this
  simpa using this
set_option maxHeartbeats 12800000 in
set_option maxRecDepth 100000 in
/-- headcountref02.Formed. -/
theorem rFormed_any (w : World) (s : Bool) (A : Option Addr) (n c : Nat) (xs : List Int) (h : Ints w 0 w.heap.size .u8 A n xs) (hd : Dig 2 xs) (hnc : n ≤ c) (hn : n ≤ 4001) (k : Nat) (hk : k ≤ 2000) (kk : Int) (hkk : kk = k) (v : Nat) (hv : num 2 xs = v) (r : Dn) (code : Int) (hf : formed s v k = (r, code)) :
    Calls Try.prog 73 #[.agg #[.bool s, .slice A n c], .int .i64 kk] w (Formed w r code) := by
  subst hkk
  have HV := Lib.hid hv
  have HF := Lib.hid hf
  have HD := Lib.hid hd
  clear hv hf hd
  have hX1 := (h.alloc (Nat.le_refl _) (.cells #[.bool s, .slice A n c] 110)).alloc (by simp) (.cells #[.bool false, .slice none 0 0, .int .i64 0] 25)
  clear h
  generalize hw : (w.alloc (.cells #[.bool s, .slice A n c] 110)).alloc (.cells #[.bool false, .slice none 0 0, .int .i64 0] 25) = w1 at *
  have HS1 : Hid (w1.heap.size = w.heap.size + 2) := by rw [Hid, ← hw]; simp
  have b1 : Below w.heap.size w w1 := by rw [← hw]; exact ((Below.refl _ w).alloc (Nat.le_refl _) _).alloc (by simp) _
  have X1 : w1.heap[w.heap.size]? = some (.cells #[.bool s, .slice A n c] 110 (0, 0)) := by
    rw [← hw, Below.heap_alloc _ _ _ (by simp)]
    exact heap_alloc_last _ _
  have X2 : w1.heap[w.heap.size + 1]? = some (.cells #[.bool false, .slice none 0 0, .int .i64 0] 25 (0, 0)) := by
    rw [← hw]
    exact heap_alloc2_new _ _ _
  obtain ⟨⟨y1, y2⟩, y3, y4⟩ := boxS X1
  obtain ⟨⟨z1, z2, z3⟩, z4, z5, z6⟩ := boxD X2
  go_enter Try.func73, Try.ntmps73
  go_wp2_with fail
  refine (Cut_any w1 _ _ A n c xs hX1 HD.out hnc).mono ?_
  rintro e wq ⟨⟨m0, rfl, hm0, hC⟩, rfl⟩
  rw [HV.out] at hC
  clear hX1 hw
  go_wp2_with fail
  by_cases hv0 : v = 0
  · have hf := HF.out
    rw [formed, if_pos hv0] at hf
    injection hf with hr hc
    subst hr
    subst hc
    subst hv0
    obtain rfl : m0 = 0 := by have := hC.len; rw [canon_zero] at this; exact this.symm
    clear hC HF HV HD
    have hnk : ((k : Int) == (k : Int)) = true := by simp
    by_cases hk0 : k = 0
    all_goals
      first | subst hk0 | have hk1 : 0 < k := by omega
      go_loopw [1, 6] (fun kv bv wr => kv = .int .i64 _ ∧ bv = .slice A 0 c ∧ wr = wq) (fun _ _ _ => 0)
      case atStart => exact ⟨rfl, rfl, rfl⟩
      case round =>
        obtain ⟨rfl, rfl, rfl⟩ := hrel
        go_wp2
        refine bodyPost_ret (v := .tuple #[.agg #[.bool false, .slice none 0 0, .int .i64 0], .int .i64 0]) (by simp [results, Try.results73, go_sem, z1, z2, z3]) rfl ⟨none, 0, 0, rfl, Nat.le_refl _, ?_, Ints.nil_ ..⟩
        exact below_put b1 (by omega) _ _ _
  · go_loopw [1, 6] (fun kv bv wr => ∃ (kj m : Nat) (Aj : Option Addr) (nj cj : Nat), kv = .int .i64 kj ∧ bv = .slice Aj nj cj ∧ kj ≤ k ∧ m ≠ 0 ∧ Hid (strip kj m = strip k v) ∧ nj ≤ cj ∧ nj ≤ n ∧ Ints wr 0 w.heap.size .u8 Aj nj (canon 2 m) ∧ wr = wq) (fun kv _ _ => (intOf kv).toNat)
    case atStart => exact ⟨k, v, A, m0, c, rfl, rfl, Nat.le_refl _, hv0, Lib.hid rfl, by omega, hm0, hC, rfl⟩
    case round =>
      obtain ⟨kj, m, Aj, nj, cj, rfl, rfl, hkj, hm, HST, hncj, hnj, hIj, rfl⟩ := hrel
      clear hC
      have hIc := hIj
      rw [canon2_cons hm] at hIc
      have hl := Lib.hid hIc.len
      obtain ⟨b, off, rfl, hcell⟩ := get hIc (by have := hl.out; simp at this; omega)
      have g1 : wr.cell? ⟨b, off, none⟩ = some (.int .u8 ((m % 2 : Nat) : Int)) := by have := hcell 0 (by have := hl.out; simp at this; omega); simpa using this
      have hn1 : ((nj : Int) == 0) = false := by have := hl.out; simp at this; simp; omega
      have hn2 : 0 < nj := by have := hl.out; simp at this; omega
      clear hcell hIc hl
      by_cases hk0 : ¬ 0 < kj
      · have hko : Hid (kj = 0 ∨ m % 2 = 1) := Lib.hid (.inl (by omega))
        replace HST := Lib.hid (HST.out.symm.trans (show strip kj m = (m, kj) by (obtain rfl : kj = 0 := by omega); rfl))
        go_wp2_with fail
        have kD : Keeps wr wr.drew := fun _ _ => rfl
        have c0 : Below wr.heap.size wr wr.drew := (Below.refl _ _).drew
        refine region_E (Keeps wr) [7] (m := 8) (L := #[false, false, false, false, false, false, false, false]) (by kernel_rfl) (by rfl) (by rfl) ?_
        refine pureE (i := 0) (L := #[true, false, false, false, false, false, false, false]) (v := ?_) rfl (by rfl) (by kernel_rfl) (by kernel_rfl) (by kernel_rfl) (fun _ _ _ h => h) (by rfl) ?hy1 ?rest1
        case hy1 => intro w; go_simp; (try with_reducible rfl)
        try simp only [Act.put, List.setIfInBounds_toArray, List.set_cons_zero, List.set_cons_succ]
        refine readE (i := 1) (L := #[true, true, false, false, false, false, false, false]) (v := .bool s) rfl (by rfl) (by kernel_rfl) (by kernel_rfl) (by kernel_rfl) (fun _ _ _ h => h) (by assumption) (by rfl) ?hyA1 ?restA1
        case hyA1 =>
          intro w' h1
          obtain ⟨⟨k1, k2⟩, _⟩ := boxS ((h1 _ (by have := HS1.out; omega)).trans X1)
          go_simp
        try simp only [Act.put, List.setIfInBounds_toArray, List.set_cons_zero, List.set_cons_succ]
        refine pureE (i := 2) (L := #[true, true, true, false, false, false, false, false]) (v := ?_) rfl (by rfl) (by kernel_rfl) (by kernel_rfl) (by kernel_rfl) (fun _ _ _ h => h) (by rfl) ?hy3 ?rest3
        case hy3 => intro w; go_simp; (try with_reducible rfl)
        try simp only [Act.put, List.setIfInBounds_toArray, List.set_cons_zero, List.set_cons_succ]
        refine pureE (i := 4) (L := #[true, true, true, false, true, false, false, false]) (v := ?_) rfl (by rfl) (by kernel_rfl) (by kernel_rfl) (by kernel_rfl) (fun _ _ _ h => h) (by rfl) ?hy4 ?rest4
        case hy4 => intro w; go_simp; (try with_reducible rfl)
        try simp only [Act.put, List.setIfInBounds_toArray, List.set_cons_zero, List.set_cons_succ]
        refine stepK2 (i := 3) (j := 6) (Li := #[true, true, true, true, true, false, false, false]) (Lj := #[true, true, true, false, true, false, true, false]) rfl rfl (by rfl) (by rfl) (by kernel_rfl) (by rfl) (by rfl) (fun K hK => ?lm1) (fun K hK => ?al1)
        case lm1 =>
          go_simp
          go_at_call 102
          refine (Limbs_any wr.drew 0 w.heap.size (some ⟨b, off, none⟩) nj cj (canon 2 m) (hIj.drewN 1) dig2 hncj (by show w.heap.size ≤ wr.heap.size; have := HS1.out; omega) (by omega) m num2).mono ?_
          rintro e w4 ⟨A2, n2, c2, rfl, hc2, hB, hI⟩
          have HI := Lib.hid hI
          have hs4 : wr.heap.size ≤ w4.heap.size := hB.size
          clear hI
          have c1 := c0.trans hB
          clear hB
          refine hK _ _ ⟨fun _ _ p hp => c1.block p hp, ?_⟩
          clear hK K
          try simp only [Act.put, List.setIfInBounds_toArray, List.set_cons_zero, List.set_cons_succ]
          
          refine pureE (i := 5) (L := #[true, true, true, true, true, true, false, false]) (v := ?_) rfl (by rfl) (by kernel_rfl) (by kernel_rfl) (by kernel_rfl) (fun _ _ _ h => h) (by rfl) ?hy5 ?rest5
          case hy5 => intro w; go_simp; (try with_reducible rfl)
          try simp only [Act.put, List.setIfInBounds_toArray, List.set_cons_zero, List.set_cons_succ]
          refine stepK (i := 6) (L := #[true, true, true, true, true, true, true, false]) rfl (by rfl) (by kernel_rfl) (by rfl) (fun K hK => ?_)
          go_simp
          have B7 := heap_alloc_last w4 (.cells #[.bool false, .slice none 0 0, .int .i64 0] 25)
          have HS7 : Hid ((w4.alloc (.cells #[.bool false, .slice none 0 0, .int .i64 0] 25)).heap.size = w4.heap.size + 1) := by rw [Hid]; simp
          have c2' : Below wr.heap.size wr (w4.alloc (.cells #[.bool false, .slice none 0 0, .int .i64 0] 25)) := c1.alloc c1.size _
          
          have J2a := Lib.hid (HI.out.alloc (Nat.le_refl _) (.cells #[.bool false, .slice none 0 0, .int .i64 0] 25))
          have hg7 : wr.heap.size ≤ w4.heap.size := hs4
          generalize hw7 : w4.alloc (.cells #[.bool false, .slice none 0 0, .int .i64 0] 25) = w7 at *
          generalize hg : w4.heap.size = g7 at *
          try clear hw7
          refine hK _ _ ⟨fun _ _ p hp => c2'.block p hp, ?_⟩
          clear hK K
          try simp only [Act.put, List.setIfInBounds_toArray, List.set_cons_zero, List.set_cons_succ]
          obtain ⟨⟨p1, p2, p3⟩, p4, p5, p6⟩ := boxD B7
          refine stepK (i := 7) (L := #[true, true, true, true, true, true, true, true]) rfl (by rfl) (by kernel_rfl) (by rfl) (fun K hK => ?_)
          go_simp
          refine hK _ _ ⟨fun h => absurd h (by decide), ?_⟩
          clear hK K
          try simp only [Act.put, List.setIfInBounds_toArray, List.set_cons_zero, List.set_cons_succ]
          refine doneE (by kernel_rfl) ?_ _
          clear p1 p2 p3 p4 p5 p6
          have q7 := box_put B7 (.bool s) (.slice A2 n2 c2) (.int .i64 kj)
          have d7 := below_put c2' (by omega : wr.heap.size ≤ g7) (.bool s) (.slice A2 n2 c2) (.int .i64 kj)
          have J2 := Lib.hid (ints_put (J2a.out.more (lo' := w.heap.size + 2) (hi' := g7) (by have := HS1.out; show w.heap.size + 2 ≤ wr.heap.size; omega) (Nat.le_refl _)) (g := g7) (.inr (Nat.le_refl _)) (.bool s) (.slice A2 n2 c2) (.int .i64 kj))
          have sz7 : (((w7.setCell ⟨g7, 0, none⟩ (.bool s)).setCell ⟨g7, 1, none⟩ (.slice A2 n2 c2)).setCell ⟨g7, 2, none⟩ (.int .i64 kj)).heap.size = w7.heap.size := size_put _ _ _
          generalize ((w7.setCell ⟨g7, 0, none⟩ (.bool s)).setCell ⟨g7, 1, none⟩ (.slice A2 n2 c2)).setCell ⟨g7, 2, none⟩ (.int .i64 kj) = w8 at *
          have hs8 : w8.heap.size = g7 + 1 := by rw [sz7]; exact HS7.out
          replace J2 := Lib.hid (J2.out.more (lo' := w.heap.size + 2) (hi' := w8.heap.size) (Nat.le_refl _) (by omega))
          have L8 : w.heap.size + 3 ≤ w8.heap.size := by have := HS1.out; omega
          have HS8 := Lib.hid hs8
          have e8 := b1.trans (d7.mono (by have := HS1.out; omega))
          have X5 := boxOn X2 d7 (by have := HS1.out; omega)
          clear sz7 hs8
          clear B7
          by_cases hM : m < capD ∧ kj ≤ 1024
          · have hmay := Lib.hid ((mayD_iff (s := s) hm hko.out).2 hM)
            have hf := HF.out
            rw [formed, if_neg hv0, HST.out, if_pos hM] at hf
            injection hf with hr hc
            subst hr
            subst hc
            clear HF hM hko hm
            have J := Lib.hid (J2.out.more (lo' := 0) (hi' := w8.heap.size) (Nat.zero_le _) (Nat.le_refl _))
            obtain ⟨⟨p1, p2, p3⟩, p4, p5, p6⟩ := boxD q7
            go_wp2_with fail
            refine (rMay_ok w8 0 w8.heap.size s A2 n2 c2 _ _ J.out (Nat.le_refl _) hmay.out).mono ?_
            rintro e w9 ⟨rfl, hB⟩
            clear p1 p2 p3 p4 p5 p6
            have hs9 := hB.size
            have q9 := boxOn q7 hB (by have := HS8.out; omega)
            clear q7
            have X9 := boxOn X5 hB (by have := HS1.out; omega)
            obtain ⟨⟨p1, p2, p3⟩, p4, p5, p6⟩ := boxD q9
            obtain ⟨⟨z1, z2, z3⟩, z4, z5, z6⟩ := boxD X9
            go_wp2
            refine bodyPost_ret (v := .tuple #[.agg #[.bool s, .slice A2 n2 c2, .int .i64 kj], .int .i64 0]) (by simp [results, Try.results73, go_sem, z1, z2, z3]) rfl ⟨A2, n2, c2, rfl, hc2, ?_, ?_⟩
            · exact below_put (e8.trans (hB.mono (by omega))) (by omega) _ _ _
            · exact (ints_put ((J2.out.below hB (Nat.le_refl _)).more (Nat.le_refl _) hB.size) (.inl (by have := HS1.out; omega)) _ _ _).more (by omega) (by rw [size_put]; exact Nat.le_refl _)
          · have hmay := Lib.hid (fun q => hM ((mayD_iff (s := s) hm hko.out).1 q))
            have hf := HF.out
            rw [formed, if_neg hv0, HST.out, if_neg hM] at hf
            injection hf with hr hc
            subst hr
            subst hc
            clear HF hM hko hm
            have J := Lib.hid (J2.out.more (lo' := 0) (hi' := w8.heap.size) (Nat.zero_le _) (Nat.le_refl _))
            obtain ⟨⟨p1, p2, p3⟩, p4, p5, p6⟩ := boxD q7
            go_wp2_with fail
            refine (rMay_bad w8 0 w8.heap.size s A2 n2 c2 _ _ J.out (Nat.le_refl _) hmay.out).mono ?_
            rintro e w9 ⟨rfl, hB⟩
            clear p1 p2 p3 p4 p5 p6
            have hs9 := hB.size
            have q9 := boxOn q7 hB (by have := HS8.out; omega)
            clear q7
            have X9 := boxOn X5 hB (by have := HS1.out; omega)
            obtain ⟨⟨p1, p2, p3⟩, p4, p5, p6⟩ := boxD q9
            obtain ⟨⟨z1, z2, z3⟩, z4, z5, z6⟩ := boxD X9
            go_wp2
            refine bodyPost_ret (v := .tuple #[.agg #[.bool false, .slice none 0 0, .int .i64 0], .int .i64 10]) (by simp [results, Try.results73, go_sem, z1, z2, z3]) rfl ⟨none, 0, 0, rfl, Nat.le_refl _, ?_, Ints.nil_ ..⟩
            exact below_put (e8.trans (hB.mono (by omega))) (by omega) _ _ _
        case al1 =>
          go_simp
          have B7 : (wr.alloc (.cells #[.bool false, .slice none 0 0, .int .i64 0] 25)).drew.heap[wr.heap.size]? = some (.cells #[.bool false, .slice none 0 0, .int .i64 0] 25 (0, 0)) := heap_alloc_last wr (.cells #[.bool false, .slice none 0 0, .int .i64 0] 25)
          have HS7' : Hid ((wr.alloc (.cells #[.bool false, .slice none 0 0, .int .i64 0] 25)).drew.heap.size = wr.heap.size + 1) := by rw [Hid]; show (wr.alloc (.cells #[.bool false, .slice none 0 0, .int .i64 0] 25)).heap.size = _; simp
          have c2' : Below wr.heap.size wr (wr.alloc (.cells #[.bool false, .slice none 0 0, .int .i64 0] 25)).drew := ((Below.refl _ _).alloc (Nat.le_refl _) _).drew
          have hIj2 : Ints (wr.alloc (.cells #[.bool false, .slice none 0 0, .int .i64 0] 25)).drew 0 w.heap.size .u8 (some ⟨b, off, none⟩) nj (canon 2 m) := (hIj.alloc (by have := HS1.out; omega) (.cells #[.bool false, .slice none 0 0, .int .i64 0] 25)).drewN 1
          generalize hw7 : (wr.alloc (.cells #[.bool false, .slice none 0 0, .int .i64 0] 25)).drew = w6 at *
          try clear hw7
          refine hK _ _ ⟨fun _ _ p hp => c2'.block p hp, ?_⟩
          clear hK K
          try simp only [Act.put, List.setIfInBounds_toArray, List.set_cons_zero, List.set_cons_succ]
          
          refine stepK (i := 3) (L := #[true, true, true, true, true, false, true, false]) rfl (by rfl) (by kernel_rfl) (by rfl) (fun K hK => ?_)
          go_simp
          go_at_call 102
          refine (Limbs_any w6 0 w.heap.size (some ⟨b, off, none⟩) nj cj (canon 2 m) hIj2 dig2 hncj (by have := HS1.out; have := HS7'.out; omega) (by omega) m num2).mono ?_
          rintro e w4 ⟨A2, n2, c2, rfl, hc2, hB, hI⟩
          have HI := Lib.hid hI
          have hs4 : w6.heap.size ≤ w4.heap.size := hB.size
          clear hI
          have c1 := c2'.trans (hB.mono (by have := HS7'.out; omega))
          replace B7 := boxOn B7 hB (by have := HS7'.out; omega)
          clear hB
          refine hK _ _ ⟨fun _ _ p hp => c1.block p hp, ?_⟩
          clear hK K
          try simp only [Act.put, List.setIfInBounds_toArray, List.set_cons_zero, List.set_cons_succ]
          refine pureE (i := 5) (L := #[true, true, true, true, true, true, true, false]) (v := ?_) rfl (by rfl) (by kernel_rfl) (by kernel_rfl) (by kernel_rfl) (fun _ _ _ h => h) (by rfl) ?hy9 ?rest9
          case hy9 => intro w; go_simp; (try with_reducible rfl)
          try simp only [Act.put, List.setIfInBounds_toArray, List.set_cons_zero, List.set_cons_succ]
          obtain ⟨⟨p1, p2, p3⟩, p4, p5, p6⟩ := boxD B7
          refine stepK (i := 7) (L := #[true, true, true, true, true, true, true, true]) rfl (by rfl) (by kernel_rfl) (by rfl) (fun K hK => ?_)
          go_simp
          refine hK _ _ ⟨fun h => absurd h (by decide), ?_⟩
          clear hK K
          try simp only [Act.put, List.setIfInBounds_toArray, List.set_cons_zero, List.set_cons_succ]
          refine doneE (by kernel_rfl) ?_ _
          clear p1 p2 p3 p4 p5 p6
          have q7 := box_put B7 (.bool s) (.slice A2 n2 c2) (.int .i64 kj)
          have d7 := below_put c1 (by omega : wr.heap.size ≤ wr.heap.size) (.bool s) (.slice A2 n2 c2) (.int .i64 kj)
          have J2 := Lib.hid (ints_put (HI.out.more (lo' := wr.heap.size + 1) (hi' := w4.heap.size) (by have := HS7'.out; omega) (Nat.le_refl _)) (g := wr.heap.size) (.inl (by omega)) (.bool s) (.slice A2 n2 c2) (.int .i64 kj))
          have sz7 : (((w4.setCell ⟨wr.heap.size, 0, none⟩ (.bool s)).setCell ⟨wr.heap.size, 1, none⟩ (.slice A2 n2 c2)).setCell ⟨wr.heap.size, 2, none⟩ (.int .i64 kj)).heap.size = w4.heap.size := size_put _ _ _
          generalize ((w4.setCell ⟨wr.heap.size, 0, none⟩ (.bool s)).setCell ⟨wr.heap.size, 1, none⟩ (.slice A2 n2 c2)).setCell ⟨wr.heap.size, 2, none⟩ (.int .i64 kj) = w8 at *
          have hs8 : w8.heap.size = w4.heap.size := sz7
          replace J2 := Lib.hid (J2.out.more (lo' := w.heap.size + 2) (hi' := w8.heap.size) (by have := HS1.out; omega) (by omega))
          have hw6s := HS7'.out
          have L8 : w.heap.size + 3 ≤ w8.heap.size := by have := HS1.out; omega
          have HS8 := Lib.hid hs8
          have e8 := b1.trans (d7.mono (by have := HS1.out; omega))
          have X5 := boxOn X2 d7 (by have := HS1.out; omega)
          clear sz7 hs8
          clear B7
          by_cases hM : m < capD ∧ kj ≤ 1024
          · have hmay := Lib.hid ((mayD_iff (s := s) hm hko.out).2 hM)
            have hf := HF.out
            rw [formed, if_neg hv0, HST.out, if_pos hM] at hf
            injection hf with hr hc
            subst hr
            subst hc
            clear HF hM hko hm
            have J := Lib.hid (J2.out.more (lo' := 0) (hi' := w8.heap.size) (Nat.zero_le _) (Nat.le_refl _))
            obtain ⟨⟨p1, p2, p3⟩, p4, p5, p6⟩ := boxD q7
            go_wp2_with fail
            refine (rMay_ok w8 0 w8.heap.size s A2 n2 c2 _ _ J.out (Nat.le_refl _) hmay.out).mono ?_
            rintro e w9 ⟨rfl, hB⟩
            clear p1 p2 p3 p4 p5 p6
            have hs9 := hB.size
            have q9 := boxOn q7 hB (by have := HS8.out; omega)
            clear q7
            have X9 := boxOn X5 hB (by have := HS1.out; omega)
            obtain ⟨⟨p1, p2, p3⟩, p4, p5, p6⟩ := boxD q9
            obtain ⟨⟨z1, z2, z3⟩, z4, z5, z6⟩ := boxD X9
            go_wp2
            refine bodyPost_ret (v := .tuple #[.agg #[.bool s, .slice A2 n2 c2, .int .i64 kj], .int .i64 0]) (by simp [results, Try.results73, go_sem, z1, z2, z3]) rfl ⟨A2, n2, c2, rfl, hc2, ?_, ?_⟩
            · exact below_put (e8.trans (hB.mono (by omega))) (by omega) _ _ _
            · exact (ints_put ((J2.out.below hB (Nat.le_refl _)).more (Nat.le_refl _) hB.size) (.inl (by have := HS1.out; omega)) _ _ _).more (by omega) (by rw [size_put]; exact Nat.le_refl _)
          · have hmay := Lib.hid (fun q => hM ((mayD_iff (s := s) hm hko.out).1 q))
            have hf := HF.out
            rw [formed, if_neg hv0, HST.out, if_neg hM] at hf
            injection hf with hr hc
            subst hr
            subst hc
            clear HF hM hko hm
            have J := Lib.hid (J2.out.more (lo' := 0) (hi' := w8.heap.size) (Nat.zero_le _) (Nat.le_refl _))
            obtain ⟨⟨p1, p2, p3⟩, p4, p5, p6⟩ := boxD q7
            go_wp2_with fail
            refine (rMay_bad w8 0 w8.heap.size s A2 n2 c2 _ _ J.out (Nat.le_refl _) hmay.out).mono ?_
            rintro e w9 ⟨rfl, hB⟩
            clear p1 p2 p3 p4 p5 p6
            have hs9 := hB.size
            have q9 := boxOn q7 hB (by have := HS8.out; omega)
            clear q7
            have X9 := boxOn X5 hB (by have := HS1.out; omega)
            obtain ⟨⟨p1, p2, p3⟩, p4, p5, p6⟩ := boxD q9
            obtain ⟨⟨z1, z2, z3⟩, z4, z5, z6⟩ := boxD X9
            go_wp2
            refine bodyPost_ret (v := .tuple #[.agg #[.bool false, .slice none 0 0, .int .i64 0], .int .i64 10]) (by simp [results, Try.results73, go_sem, z1, z2, z3]) rfl ⟨none, 0, 0, rfl, Nat.le_refl _, ?_, Ints.nil_ ..⟩
            exact below_put (e8.trans (hB.mono (by omega))) (by omega) _ _ _
      · have hk1 : 0 < kj := by omega
        clear hk0
        rcases Nat.mod_two_eq_zero_or_one m with hpar | hpar
        · rw [hpar] at g1
          have hsub : IntKind.i64.wrap ((kj : Int) - 1) = ((kj - 1 : Nat) : Int) := by rw [IntKind.wrap_i64]; omega
          have hst2 : strip kj m = strip (kj - 1) (m / 2) := by (obtain ⟨j, rfl⟩ : ∃ j, kj = j + 1 := ⟨kj - 1, by omega⟩); exact strip_even hpar
          replace HST := Lib.hid (hst2.symm.trans HST.out)
          clear hst2
          rw [canon2_cons hm] at hIj
          have hm2 : m / 2 ≠ 0 := by omega
          obtain ⟨hnt, bt, ot, et, hbt, hxt, hcut⟩ := ints_tail hIj
          injection et with et
          injection et with et1 et2 et3
          subst et1
          subst et2
          clear et3 hxt hbt hnt hpar hm
          have HCUT := Lib.hid hcut
          clear hcut hIj
          have HSUB := Lib.hid hsub
          by_cases h1 : cj = 1
          · subst h1
            obtain rfl : nj = 1 := by omega
            go_wp2
            go_roundw
            case rel => exact ⟨kj - 1, m / 2, _, _, _, by first | rfl | (congr 1; omega) | (rw [← HSUB.out]; done) | simp, rfl, by omega, hm2, HST, by first | omega | simp, by first | omega | simp, HCUT.out _ (.inl (by first | rfl | trivial | simp)), by trivial⟩
            case measure => first | (simp [intOf]; done) | (simp [intOf]; omega)
          · go_wp2
            go_roundw
            case rel => exact ⟨kj - 1, m / 2, _, _, _, by first | rfl | (congr 1; omega) | (rw [← HSUB.out]; done) | simp, rfl, by omega, hm2, HST, by omega, by omega, HCUT.out _ (.inr rfl), by trivial⟩
            case measure => first | (simp [intOf]; done) | (simp [intOf]; omega)
        · have hko : Hid (kj = 0 ∨ m % 2 = 1) := Lib.hid (.inr hpar)
          rw [hpar] at g1
          replace HST := Lib.hid (HST.out.symm.trans (show strip kj m = (m, kj) by (obtain ⟨j, rfl⟩ : ∃ j, kj = j + 1 := ⟨kj - 1, by omega⟩); exact strip_odd hpar))
          clear hpar
          go_wp2_with fail
          have kD : Keeps wr wr.drew := fun _ _ => rfl
          have c0 : Below wr.heap.size wr wr.drew := (Below.refl _ _).drew
          refine region_E (Keeps wr) [7] (m := 8) (L := #[false, false, false, false, false, false, false, false]) (by kernel_rfl) (by rfl) (by rfl) ?_
          refine pureE (i := 0) (L := #[true, false, false, false, false, false, false, false]) (v := ?_) rfl (by rfl) (by kernel_rfl) (by kernel_rfl) (by kernel_rfl) (fun _ _ _ h => h) (by rfl) ?hy11 ?rest11
          case hy11 => intro w; go_simp; (try with_reducible rfl)
          try simp only [Act.put, List.setIfInBounds_toArray, List.set_cons_zero, List.set_cons_succ]
          refine readE (i := 1) (L := #[true, true, false, false, false, false, false, false]) (v := .bool s) rfl (by rfl) (by kernel_rfl) (by kernel_rfl) (by kernel_rfl) (fun _ _ _ h => h) (by assumption) (by rfl) ?hyA2 ?restA2
          case hyA2 =>
            intro w' h1
            obtain ⟨⟨k1, k2⟩, _⟩ := boxS ((h1 _ (by have := HS1.out; omega)).trans X1)
            go_simp
          try simp only [Act.put, List.setIfInBounds_toArray, List.set_cons_zero, List.set_cons_succ]
          refine pureE (i := 2) (L := #[true, true, true, false, false, false, false, false]) (v := ?_) rfl (by rfl) (by kernel_rfl) (by kernel_rfl) (by kernel_rfl) (fun _ _ _ h => h) (by rfl) ?hy13 ?rest13
          case hy13 => intro w; go_simp; (try with_reducible rfl)
          try simp only [Act.put, List.setIfInBounds_toArray, List.set_cons_zero, List.set_cons_succ]
          refine pureE (i := 4) (L := #[true, true, true, false, true, false, false, false]) (v := ?_) rfl (by rfl) (by kernel_rfl) (by kernel_rfl) (by kernel_rfl) (fun _ _ _ h => h) (by rfl) ?hy14 ?rest14
          case hy14 => intro w; go_simp; (try with_reducible rfl)
          try simp only [Act.put, List.setIfInBounds_toArray, List.set_cons_zero, List.set_cons_succ]
          refine stepK2 (i := 3) (j := 6) (Li := #[true, true, true, true, true, false, false, false]) (Lj := #[true, true, true, false, true, false, true, false]) rfl rfl (by rfl) (by rfl) (by kernel_rfl) (by rfl) (by rfl) (fun K hK => ?lm2) (fun K hK => ?al2)
          case lm2 =>
            go_simp
            go_at_call 102
            refine (Limbs_any wr.drew 0 w.heap.size (some ⟨b, off, none⟩) nj cj (canon 2 m) (hIj.drewN 1) dig2 hncj (by show w.heap.size ≤ wr.heap.size; have := HS1.out; omega) (by omega) m num2).mono ?_
            rintro e w4 ⟨A2, n2, c2, rfl, hc2, hB, hI⟩
            have HI := Lib.hid hI
            have hs4 : wr.heap.size ≤ w4.heap.size := hB.size
            clear hI
            have c1 := c0.trans hB
            clear hB
            refine hK _ _ ⟨fun _ _ p hp => c1.block p hp, ?_⟩
            clear hK K
            try simp only [Act.put, List.setIfInBounds_toArray, List.set_cons_zero, List.set_cons_succ]
            
            refine pureE (i := 5) (L := #[true, true, true, true, true, true, false, false]) (v := ?_) rfl (by rfl) (by kernel_rfl) (by kernel_rfl) (by kernel_rfl) (fun _ _ _ h => h) (by rfl) ?hy15 ?rest15
            case hy15 => intro w; go_simp; (try with_reducible rfl)
            try simp only [Act.put, List.setIfInBounds_toArray, List.set_cons_zero, List.set_cons_succ]
            refine stepK (i := 6) (L := #[true, true, true, true, true, true, true, false]) rfl (by rfl) (by kernel_rfl) (by rfl) (fun K hK => ?_)
            go_simp
            have B7 := heap_alloc_last w4 (.cells #[.bool false, .slice none 0 0, .int .i64 0] 25)
            have HS7 : Hid ((w4.alloc (.cells #[.bool false, .slice none 0 0, .int .i64 0] 25)).heap.size = w4.heap.size + 1) := by rw [Hid]; simp
            have c2' : Below wr.heap.size wr (w4.alloc (.cells #[.bool false, .slice none 0 0, .int .i64 0] 25)) := c1.alloc c1.size _
            
            have J2a := Lib.hid (HI.out.alloc (Nat.le_refl _) (.cells #[.bool false, .slice none 0 0, .int .i64 0] 25))
            have hg7 : wr.heap.size ≤ w4.heap.size := hs4
            generalize hw7 : w4.alloc (.cells #[.bool false, .slice none 0 0, .int .i64 0] 25) = w7 at *
            generalize hg : w4.heap.size = g7 at *
            try clear hw7
            refine hK _ _ ⟨fun _ _ p hp => c2'.block p hp, ?_⟩
            clear hK K
            try simp only [Act.put, List.setIfInBounds_toArray, List.set_cons_zero, List.set_cons_succ]
            obtain ⟨⟨p1, p2, p3⟩, p4, p5, p6⟩ := boxD B7
            refine stepK (i := 7) (L := #[true, true, true, true, true, true, true, true]) rfl (by rfl) (by kernel_rfl) (by rfl) (fun K hK => ?_)
            go_simp
            refine hK _ _ ⟨fun h => absurd h (by decide), ?_⟩
            clear hK K
            try simp only [Act.put, List.setIfInBounds_toArray, List.set_cons_zero, List.set_cons_succ]
            refine doneE (by kernel_rfl) ?_ _
            clear p1 p2 p3 p4 p5 p6
            have q7 := box_put B7 (.bool s) (.slice A2 n2 c2) (.int .i64 kj)
            have d7 := below_put c2' (by omega : wr.heap.size ≤ g7) (.bool s) (.slice A2 n2 c2) (.int .i64 kj)
            have J2 := Lib.hid (ints_put (J2a.out.more (lo' := w.heap.size + 2) (hi' := g7) (by have := HS1.out; show w.heap.size + 2 ≤ wr.heap.size; omega) (Nat.le_refl _)) (g := g7) (.inr (Nat.le_refl _)) (.bool s) (.slice A2 n2 c2) (.int .i64 kj))
            have sz7 : (((w7.setCell ⟨g7, 0, none⟩ (.bool s)).setCell ⟨g7, 1, none⟩ (.slice A2 n2 c2)).setCell ⟨g7, 2, none⟩ (.int .i64 kj)).heap.size = w7.heap.size := size_put _ _ _
            generalize ((w7.setCell ⟨g7, 0, none⟩ (.bool s)).setCell ⟨g7, 1, none⟩ (.slice A2 n2 c2)).setCell ⟨g7, 2, none⟩ (.int .i64 kj) = w8 at *
            have hs8 : w8.heap.size = g7 + 1 := by rw [sz7]; exact HS7.out
            replace J2 := Lib.hid (J2.out.more (lo' := w.heap.size + 2) (hi' := w8.heap.size) (Nat.le_refl _) (by omega))
            have L8 : w.heap.size + 3 ≤ w8.heap.size := by have := HS1.out; omega
            have HS8 := Lib.hid hs8
            have e8 := b1.trans (d7.mono (by have := HS1.out; omega))
            have X5 := boxOn X2 d7 (by have := HS1.out; omega)
            clear sz7 hs8
            clear B7
            by_cases hM : m < capD ∧ kj ≤ 1024
            · have hmay := Lib.hid ((mayD_iff (s := s) hm hko.out).2 hM)
              have hf := HF.out
              rw [formed, if_neg hv0, HST.out, if_pos hM] at hf
              injection hf with hr hc
              subst hr
              subst hc
              clear HF hM hko hm
              have J := Lib.hid (J2.out.more (lo' := 0) (hi' := w8.heap.size) (Nat.zero_le _) (Nat.le_refl _))
              obtain ⟨⟨p1, p2, p3⟩, p4, p5, p6⟩ := boxD q7
              go_wp2_with fail
              refine (rMay_ok w8 0 w8.heap.size s A2 n2 c2 _ _ J.out (Nat.le_refl _) hmay.out).mono ?_
              rintro e w9 ⟨rfl, hB⟩
              clear p1 p2 p3 p4 p5 p6
              have hs9 := hB.size
              have q9 := boxOn q7 hB (by have := HS8.out; omega)
              clear q7
              have X9 := boxOn X5 hB (by have := HS1.out; omega)
              obtain ⟨⟨p1, p2, p3⟩, p4, p5, p6⟩ := boxD q9
              obtain ⟨⟨z1, z2, z3⟩, z4, z5, z6⟩ := boxD X9
              go_wp2
              refine bodyPost_ret (v := .tuple #[.agg #[.bool s, .slice A2 n2 c2, .int .i64 kj], .int .i64 0]) (by simp [results, Try.results73, go_sem, z1, z2, z3]) rfl ⟨A2, n2, c2, rfl, hc2, ?_, ?_⟩
              · exact below_put (e8.trans (hB.mono (by omega))) (by omega) _ _ _
              · exact (ints_put ((J2.out.below hB (Nat.le_refl _)).more (Nat.le_refl _) hB.size) (.inl (by have := HS1.out; omega)) _ _ _).more (by omega) (by rw [size_put]; exact Nat.le_refl _)
            · have hmay := Lib.hid (fun q => hM ((mayD_iff (s := s) hm hko.out).1 q))
              have hf := HF.out
              rw [formed, if_neg hv0, HST.out, if_neg hM] at hf
              injection hf with hr hc
              subst hr
              subst hc
              clear HF hM hko hm
              have J := Lib.hid (J2.out.more (lo' := 0) (hi' := w8.heap.size) (Nat.zero_le _) (Nat.le_refl _))
              obtain ⟨⟨p1, p2, p3⟩, p4, p5, p6⟩ := boxD q7
              go_wp2_with fail
              refine (rMay_bad w8 0 w8.heap.size s A2 n2 c2 _ _ J.out (Nat.le_refl _) hmay.out).mono ?_
              rintro e w9 ⟨rfl, hB⟩
              clear p1 p2 p3 p4 p5 p6
              have hs9 := hB.size
              have q9 := boxOn q7 hB (by have := HS8.out; omega)
              clear q7
              have X9 := boxOn X5 hB (by have := HS1.out; omega)
              obtain ⟨⟨p1, p2, p3⟩, p4, p5, p6⟩ := boxD q9
              obtain ⟨⟨z1, z2, z3⟩, z4, z5, z6⟩ := boxD X9
              go_wp2
              refine bodyPost_ret (v := .tuple #[.agg #[.bool false, .slice none 0 0, .int .i64 0], .int .i64 10]) (by simp [results, Try.results73, go_sem, z1, z2, z3]) rfl ⟨none, 0, 0, rfl, Nat.le_refl _, ?_, Ints.nil_ ..⟩
              exact below_put (e8.trans (hB.mono (by omega))) (by omega) _ _ _
          case al2 =>
            go_simp
            have B7 : (wr.alloc (.cells #[.bool false, .slice none 0 0, .int .i64 0] 25)).drew.heap[wr.heap.size]? = some (.cells #[.bool false, .slice none 0 0, .int .i64 0] 25 (0, 0)) := heap_alloc_last wr (.cells #[.bool false, .slice none 0 0, .int .i64 0] 25)
            have HS7' : Hid ((wr.alloc (.cells #[.bool false, .slice none 0 0, .int .i64 0] 25)).drew.heap.size = wr.heap.size + 1) := by rw [Hid]; show (wr.alloc (.cells #[.bool false, .slice none 0 0, .int .i64 0] 25)).heap.size = _; simp
            have c2' : Below wr.heap.size wr (wr.alloc (.cells #[.bool false, .slice none 0 0, .int .i64 0] 25)).drew := ((Below.refl _ _).alloc (Nat.le_refl _) _).drew
            have hIj2 : Ints (wr.alloc (.cells #[.bool false, .slice none 0 0, .int .i64 0] 25)).drew 0 w.heap.size .u8 (some ⟨b, off, none⟩) nj (canon 2 m) := (hIj.alloc (by have := HS1.out; omega) (.cells #[.bool false, .slice none 0 0, .int .i64 0] 25)).drewN 1
            generalize hw7 : (wr.alloc (.cells #[.bool false, .slice none 0 0, .int .i64 0] 25)).drew = w6 at *
            try clear hw7
            refine hK _ _ ⟨fun _ _ p hp => c2'.block p hp, ?_⟩
            clear hK K
            try simp only [Act.put, List.setIfInBounds_toArray, List.set_cons_zero, List.set_cons_succ]
            
            refine stepK (i := 3) (L := #[true, true, true, true, true, false, true, false]) rfl (by rfl) (by kernel_rfl) (by rfl) (fun K hK => ?_)
            go_simp
            go_at_call 102
            refine (Limbs_any w6 0 w.heap.size (some ⟨b, off, none⟩) nj cj (canon 2 m) hIj2 dig2 hncj (by have := HS1.out; have := HS7'.out; omega) (by omega) m num2).mono ?_
            rintro e w4 ⟨A2, n2, c2, rfl, hc2, hB, hI⟩
            have HI := Lib.hid hI
            have hs4 : w6.heap.size ≤ w4.heap.size := hB.size
            clear hI
            have c1 := c2'.trans (hB.mono (by have := HS7'.out; omega))
            replace B7 := boxOn B7 hB (by have := HS7'.out; omega)
            clear hB
            refine hK _ _ ⟨fun _ _ p hp => c1.block p hp, ?_⟩
            clear hK K
            try simp only [Act.put, List.setIfInBounds_toArray, List.set_cons_zero, List.set_cons_succ]
            refine pureE (i := 5) (L := #[true, true, true, true, true, true, true, false]) (v := ?_) rfl (by rfl) (by kernel_rfl) (by kernel_rfl) (by kernel_rfl) (fun _ _ _ h => h) (by rfl) ?hy19 ?rest19
            case hy19 => intro w; go_simp; (try with_reducible rfl)
            try simp only [Act.put, List.setIfInBounds_toArray, List.set_cons_zero, List.set_cons_succ]
            obtain ⟨⟨p1, p2, p3⟩, p4, p5, p6⟩ := boxD B7
            refine stepK (i := 7) (L := #[true, true, true, true, true, true, true, true]) rfl (by rfl) (by kernel_rfl) (by rfl) (fun K hK => ?_)
            go_simp
            refine hK _ _ ⟨fun h => absurd h (by decide), ?_⟩
            clear hK K
            try simp only [Act.put, List.setIfInBounds_toArray, List.set_cons_zero, List.set_cons_succ]
            refine doneE (by kernel_rfl) ?_ _
            clear p1 p2 p3 p4 p5 p6
            have q7 := box_put B7 (.bool s) (.slice A2 n2 c2) (.int .i64 kj)
            have d7 := below_put c1 (by omega : wr.heap.size ≤ wr.heap.size) (.bool s) (.slice A2 n2 c2) (.int .i64 kj)
            have J2 := Lib.hid (ints_put (HI.out.more (lo' := wr.heap.size + 1) (hi' := w4.heap.size) (by have := HS7'.out; omega) (Nat.le_refl _)) (g := wr.heap.size) (.inl (by omega)) (.bool s) (.slice A2 n2 c2) (.int .i64 kj))
            have sz7 : (((w4.setCell ⟨wr.heap.size, 0, none⟩ (.bool s)).setCell ⟨wr.heap.size, 1, none⟩ (.slice A2 n2 c2)).setCell ⟨wr.heap.size, 2, none⟩ (.int .i64 kj)).heap.size = w4.heap.size := size_put _ _ _
            generalize ((w4.setCell ⟨wr.heap.size, 0, none⟩ (.bool s)).setCell ⟨wr.heap.size, 1, none⟩ (.slice A2 n2 c2)).setCell ⟨wr.heap.size, 2, none⟩ (.int .i64 kj) = w8 at *
            have hs8 : w8.heap.size = w4.heap.size := sz7
            replace J2 := Lib.hid (J2.out.more (lo' := w.heap.size + 2) (hi' := w8.heap.size) (by have := HS1.out; omega) (by omega))
            have hw6s := HS7'.out
            have L8 : w.heap.size + 3 ≤ w8.heap.size := by have := HS1.out; omega
            have HS8 := Lib.hid hs8
            have e8 := b1.trans (d7.mono (by have := HS1.out; omega))
            have X5 := boxOn X2 d7 (by have := HS1.out; omega)
            clear sz7 hs8
            clear B7
            by_cases hM : m < capD ∧ kj ≤ 1024
            · have hmay := Lib.hid ((mayD_iff (s := s) hm hko.out).2 hM)
              have hf := HF.out
              rw [formed, if_neg hv0, HST.out, if_pos hM] at hf
              injection hf with hr hc
              subst hr
              subst hc
              clear HF hM hko hm
              have J := Lib.hid (J2.out.more (lo' := 0) (hi' := w8.heap.size) (Nat.zero_le _) (Nat.le_refl _))
              obtain ⟨⟨p1, p2, p3⟩, p4, p5, p6⟩ := boxD q7
              go_wp2_with fail
              refine (rMay_ok w8 0 w8.heap.size s A2 n2 c2 _ _ J.out (Nat.le_refl _) hmay.out).mono ?_
              rintro e w9 ⟨rfl, hB⟩
              clear p1 p2 p3 p4 p5 p6
              have hs9 := hB.size
              have q9 := boxOn q7 hB (by have := HS8.out; omega)
              clear q7
              have X9 := boxOn X5 hB (by have := HS1.out; omega)
              obtain ⟨⟨p1, p2, p3⟩, p4, p5, p6⟩ := boxD q9
              obtain ⟨⟨z1, z2, z3⟩, z4, z5, z6⟩ := boxD X9
              go_wp2
              refine bodyPost_ret (v := .tuple #[.agg #[.bool s, .slice A2 n2 c2, .int .i64 kj], .int .i64 0]) (by simp [results, Try.results73, go_sem, z1, z2, z3]) rfl ⟨A2, n2, c2, rfl, hc2, ?_, ?_⟩
              · exact below_put (e8.trans (hB.mono (by omega))) (by omega) _ _ _
              · exact (ints_put ((J2.out.below hB (Nat.le_refl _)).more (Nat.le_refl _) hB.size) (.inl (by have := HS1.out; omega)) _ _ _).more (by omega) (by rw [size_put]; exact Nat.le_refl _)
            · have hmay := Lib.hid (fun q => hM ((mayD_iff (s := s) hm hko.out).1 q))
              have hf := HF.out
              rw [formed, if_neg hv0, HST.out, if_neg hM] at hf
              injection hf with hr hc
              subst hr
              subst hc
              clear HF hM hko hm
              have J := Lib.hid (J2.out.more (lo' := 0) (hi' := w8.heap.size) (Nat.zero_le _) (Nat.le_refl _))
              obtain ⟨⟨p1, p2, p3⟩, p4, p5, p6⟩ := boxD q7
              go_wp2_with fail
              refine (rMay_bad w8 0 w8.heap.size s A2 n2 c2 _ _ J.out (Nat.le_refl _) hmay.out).mono ?_
              rintro e w9 ⟨rfl, hB⟩
              clear p1 p2 p3 p4 p5 p6
              have hs9 := hB.size
              have q9 := boxOn q7 hB (by have := HS8.out; omega)
              clear q7
              have X9 := boxOn X5 hB (by have := HS1.out; omega)
              obtain ⟨⟨p1, p2, p3⟩, p4, p5, p6⟩ := boxD q9
              obtain ⟨⟨z1, z2, z3⟩, z4, z5, z6⟩ := boxD X9
              go_wp2
              refine bodyPost_ret (v := .tuple #[.agg #[.bool false, .slice none 0 0, .int .i64 0], .int .i64 10]) (by simp [results, Try.results73, go_sem, z1, z2, z3]) rfl ⟨none, 0, 0, rfl, Nat.le_refl _, ?_, Ints.nil_ ..⟩
              exact below_put (e8.trans (hB.mono (by omega))) (by omega) _ _ _
end Dy
end Go.Proofs.Ytbbnbgllgomolaa
namespace Go.Proofs.Ytbbnbgllgomolaa
open Go.RowKit
namespace Dy
open Dp
theorem boxes2 (w : World) (o1 o2 : Obj) {w1 : World} (hw : (w.alloc o1).alloc o2 = w1) : w1.heap[w.heap.size]? = some o1 ∧ w1.heap[w.heap.size + 1]? = some o2 ∧ Below w.heap.size w w1 ∧ w.heap.size + 2 ≤ w1.heap.size ∧ w1.heap.size ≤ w.heap.size + 2 := by
  subst hw
  exact ⟨by rw [Below.heap_alloc _ _ _ (by simp)]; exact heap_alloc_last _ _, heap_alloc2_new _ _ _, ((Below.refl _ w).alloc (Nat.le_refl _) _).alloc (by simp) _, by simp, by simp⟩
theorem boxes3 (w : World) (o1 o2 o3 : Obj) {w1 : World} (hw : ((w.alloc o1).alloc o2).alloc o3 = w1) : w1.heap[w.heap.size]? = some o1 ∧ w1.heap[w.heap.size + 1]? = some o2 ∧ w1.heap[w.heap.size + 1 + 1]? = some o3 ∧ Below w.heap.size w w1 ∧ w.heap.size + 3 ≤ w1.heap.size ∧ w1.heap.size ≤ w.heap.size + 3 := by
  obtain ⟨h1, h2, h3, h4, h5⟩ := boxes2 w o1 o2 rfl
  subst hw
  refine ⟨(Below.heap_alloc _ _ _ (by omega)).trans h1, (Below.heap_alloc _ _ _ (by omega)).trans h2, ?_, h3.alloc (by omega) _, by simp, by simp⟩
  have e : w.heap.size + 1 + 1 = ((w.alloc o1).alloc o2).heap.size := by omega
  rw [e]
  exact heap_alloc_last _ _
end Dy
end Go.Proofs.Ytbbnbgllgomolaa
namespace Go.Proofs.Ytbbnbgllgomolaa
open Go.RowKit
namespace Ma
attribute [local go_sem] Oper.semAt_some
theorem lt_of_heap {W : World} {g : Nat} {o : Obj} (h : W.heap[g]? = some o) : g < W.heap.size := (Array.getElem?_eq_some_iff.1 h).1
/-- The two boxes that the iterator reads. -/
def Two (ga gb ma mb : Nat) (W : World) : Prop := W.heap[ga]? = some (.cells #[.pointer (some ⟨ma, 0, none⟩)] 134 (0, 0)) ∧ W.heap[gb]? = some (.cells #[.pointer (some ⟨mb, 0, none⟩)] 134 (0, 0))
end Ma
end Go.Proofs.Ytbbnbgllgomolaa
namespace Go.Proofs.Ytbbnbgllgomolaa
open Go.RowKit
namespace Ma
open Dp Dy
attribute [local go_sem] Oper.semAt_some
/-- A dyad's value, and what its row holds. -/
structure Dv where
  s : Bool
  A : Option Addr
  n : Nat
  c : Nat
  e : Int
  xs : List Int
structure Mv where
  S : Dv
  W : Dv
  C : Dv
  A : Dv
def Mv.get (m : Mv) : Nat → Dv
  | 0 => m.S
  | 1 => m.W
  | 2 => m.C
  | _ => m.A
def Dv.Row (w : World) (lo hi : Nat) (d : Dv) : Prop := Ints w lo hi .u32 d.A d.n d.xs
def Dv.may (d : Dv) : Prop := MayD d.s d.xs d.e
structure MRows (w : World) (lo hi : Nat) (m : Mv) : Prop where
  S : m.S.Row w lo hi
  W : m.W.Row w lo hi
  C : m.C.Row w lo hi
  A : m.A.Row w lo hi
theorem MRows.get {w : World} {lo hi : Nat} {m : Mv} (h : MRows w lo hi m) (x : Nat) : Ints w lo hi .u32 (m.get x).A (m.get x).n (m.get x).xs := by
  unfold Mv.get
  split
  · exact h.S
  · exact h.W
  · exact h.C
  · exact h.A
theorem MRows.below {w w' : World} {lo hi B : Nat} {m : Mv} (h : MRows w lo hi m) (hb : Below B w w') (hB : hi ≤ B) : MRows w' lo hi m := ⟨Ints.below h.S hb hB, Ints.below h.W hb hB, Ints.below h.C hb hB, Ints.below h.A hb hB⟩
theorem MRows.more {w : World} {lo hi lo' hi' : Nat} {m : Mv} (h : MRows w lo hi m) (hl : lo' ≤ lo) (hh : hi ≤ hi') : MRows w lo' hi' m := ⟨Ints.more h.S hl hh, Ints.more h.W hl hh, Ints.more h.C hl hh, Ints.more h.A hl hh⟩
/-- A mass in a block. -/
def MBox (w : World) (g : Nat) (m : Mv) : Prop := w.heap[g]? = some (.cells #[.bool m.S.s, .slice m.S.A m.S.n m.S.c, .int .i64 m.S.e, .bool m.W.s, .slice m.W.A m.W.n m.W.c, .int .i64 m.W.e, .bool m.C.s, .slice m.C.A m.C.n m.C.c, .int .i64 m.C.e, .bool m.A.s, .slice m.A.A m.A.n m.A.c, .int .i64 m.A.e] 27 (0, 0))
theorem MBox.at_ {w : World} {g : Nat} {m : Mv} (h : MBox w g m) {x : Nat} (hx : x < 4) :
    (w.cell? ⟨g, 3 * x, none⟩ = some (.bool (m.get x).s) ∧ w.cell? ⟨g, 3 * x + 1, none⟩ = some (.slice (m.get x).A (m.get x).n (m.get x).c) ∧ w.cell? ⟨g, 3 * x + 2, none⟩ = some (.int .i64 (m.get x).e)) ∧
      (w.frozen? ⟨g, 3 * x, none⟩ = false ∧ w.frozen? ⟨g, 3 * x + 1, none⟩ = false ∧ w.frozen? ⟨g, 3 * x + 2, none⟩ = false) := by
  have hf : ∀ k, w.frozen? ⟨g, k, none⟩ = false := fun k => frozen_of_row w g k _ _ h
  refine ⟨?_, hf _, hf _, hf _⟩
  have hc : ∀ k v, (#[.bool m.S.s, .slice m.S.A m.S.n m.S.c, .int .i64 m.S.e, .bool m.W.s, .slice m.W.A m.W.n m.W.c, .int .i64 m.W.e, .bool m.C.s, .slice m.C.A m.C.n m.C.c, .int .i64 m.C.e, .bool m.A.s, .slice m.A.A m.A.n m.A.c, .int .i64 m.A.e] : Array Value)[k]? = some v → w.cell? ⟨g, k, none⟩ = some v := fun k v hk => by
    unfold MBox at h
    simp [World.cell?, h]
    simpa using hk
  have hx' : x = 0 ∨ x = 1 ∨ x = 2 ∨ x = 3 := by omega
  rcases hx' with rfl | rfl | rfl | rfl <;> exact ⟨hc _ _ rfl, hc _ _ rfl, hc _ _ rfl⟩
def Mv.may (m : Mv) : Prop := ∀ x, x < 4 → (m.get x).may
end Ma
end Go.Proofs.Ytbbnbgllgomolaa
namespace Go.Proofs.Ytbbnbgllgomolaa
open Go.RowKit
namespace Ma
open Dp Dy
attribute [local go_sem] Oper.semAt_some
def sameV (d d' : Dv) : Bool := Pa.Dy.same ⟨d.s, d.xs, d.e⟩ ⟨d'.s, d'.xs, d'.e⟩
def sameM (a b : Mv) : Bool := sameV a.S b.S && sameV a.W b.W && sameV a.C b.C && sameV a.A b.A
theorem four {p : Nat → Prop} (h0 : p 0) (h1 : p 1) (h2 : p 2) (h3 : p 3) : ∀ x, x < 4 → p x := fun x hx => by
  have hx' : x = 0 ∨ x = 1 ∨ x = 2 ∨ x = 3 := by omega
  rcases hx' with rfl | rfl | rfl | rfl
  · exact h0
  · exact h1
  · exact h2
  · exact h3
theorem sameM_iff (a b : Mv) : sameM a b = true ↔ ∀ x, x < 4 → sameV (a.get x) (b.get x) = true := by
  unfold sameM
  simp only [Bool.and_eq_true]
  exact ⟨fun h => four h.1.1.1 h.1.1.2 h.1.2 h.2, fun h => ⟨⟨⟨h 0 (by decide), h 1 (by decide)⟩, h 2 (by decide)⟩, h 3 (by decide)⟩⟩
theorem heapN {w w' : World} {g : Nat} {o : Obj} (hb : Below w.heap.size w w') (h : w.heap[g]? = some o) : w'.heap[g]? = some o := (hb.block g (lt_of_heap h)).trans h
theorem boxes5 (w : World) (o1 o2 o3 o4 o5 : Obj) {w1 : World} (hw : ((((w.alloc o1).alloc o2).alloc o3).alloc o4).alloc o5 = w1) :
    (w1.heap[w.heap.size]? = some o1 ∧ w1.heap[w.heap.size + 1]? = some o2 ∧ w1.heap[w.heap.size + 1 + 1]? = some o3 ∧ w1.heap[w.heap.size + 1 + 1 + 1]? = some o4 ∧ w1.heap[w.heap.size + 1 + 1 + 1 + 1]? = some o5) ∧ Below w.heap.size w w1 ∧ w.heap.size + 5 ≤ w1.heap.size ∧ w1.heap.size ≤ w.heap.size + 5 := by
  obtain ⟨h1, h2, h3, h4, h5, h6⟩ := boxes3 w o1 o2 o3 rfl
  obtain ⟨k1, k2, k3, k4, k5⟩ := boxes2 (((w.alloc o1).alloc o2).alloc o3) o4 o5 rfl
  subst hw
  have e : (((w.alloc o1).alloc o2).alloc o3).heap.size = w.heap.size + 1 + 1 + 1 := by simp
  rw [e] at k1 k2
  exact ⟨⟨heapN k3 h1, heapN k3 h2, heapN k3 h3, k1, k2⟩, h4.trans (k3.mono (by omega)), by omega, by omega⟩
end Ma
end Go.Proofs.Ytbbnbgllgomolaa
namespace Go.Proofs.Ytbbnbgllgomolaa
open Go.RowKit
namespace Ma
open Dp Dy
attribute [local go_sem] Oper.semAt_some
def Mv.put (m : Mv) (x : Nat) (d : Dv) : Mv := match x with
  | 0 => { m with S := d }
  | 1 => { m with W := d }
  | 2 => { m with C := d }
  | _ => { m with A := d }
theorem MBox.put {w : World} {g : Nat} {m : Mv} (h : MBox w g m) {x : Nat} (hx : x < 4) (d : Dv) :
    MBox (((w.setCell ⟨g, 3 * x, none⟩ (.bool d.s)).setCell ⟨g, 3 * x + 1, none⟩ (.slice d.A d.n d.c)).setCell ⟨g, 3 * x + 2, none⟩ (.int .i64 d.e)) g (m.put x d) := by
  have hx' : x = 0 ∨ x = 1 ∨ x = 2 ∨ x = 3 := by omega
  unfold MBox at *
  rcases hx' with rfl | rfl | rfl | rfl <;> simp [World.setCell, Array.getElem?_modify, h, Mv.put]
theorem MBox.cells {w : World} {g : Nat} {m : Mv} (h : MBox w g m) : (w.cell? ⟨g, 0, none⟩ = some (.bool m.S.s) ∧ w.cell? ⟨g, 1, none⟩ = some (.slice m.S.A m.S.n m.S.c) ∧ w.cell? ⟨g, 2, none⟩ = some (.int .i64 m.S.e) ∧ w.cell? ⟨g, 3, none⟩ = some (.bool m.W.s) ∧ w.cell? ⟨g, 4, none⟩ = some (.slice m.W.A m.W.n m.W.c) ∧ w.cell? ⟨g, 5, none⟩ = some (.int .i64 m.W.e) ∧ w.cell? ⟨g, 6, none⟩ = some (.bool m.C.s) ∧ w.cell? ⟨g, 7, none⟩ = some (.slice m.C.A m.C.n m.C.c) ∧ w.cell? ⟨g, 8, none⟩ = some (.int .i64 m.C.e) ∧ w.cell? ⟨g, 9, none⟩ = some (.bool m.A.s) ∧ w.cell? ⟨g, 10, none⟩ = some (.slice m.A.A m.A.n m.A.c) ∧ w.cell? ⟨g, 11, none⟩ = some (.int .i64 m.A.e)) ∧ ∀ k, w.frozen? ⟨g, k, none⟩ = false := by
  refine ⟨?_, fun k => frozen_of_row w g k _ _ h⟩
  have hc : ∀ k v, (#[.bool m.S.s, .slice m.S.A m.S.n m.S.c, .int .i64 m.S.e, .bool m.W.s, .slice m.W.A m.W.n m.W.c, .int .i64 m.W.e, .bool m.C.s, .slice m.C.A m.C.n m.C.c, .int .i64 m.C.e, .bool m.A.s, .slice m.A.A m.A.n m.A.c, .int .i64 m.A.e] : Array Value)[k]? = some v → w.cell? ⟨g, k, none⟩ = some v := fun k v hk => by
    unfold MBox at h
    simp [World.cell?, h]
    simpa using hk
  exact ⟨hc _ _ rfl, hc _ _ rfl, hc _ _ rfl, hc _ _ rfl, hc _ _ rfl, hc _ _ rfl, hc _ _ rfl, hc _ _ rfl, hc _ _ rfl, hc _ _ rfl, hc _ _ rfl, hc _ _ rfl⟩
/-- A whole mass is laid into a block of 12 cells. -/
theorem MBox.all {w : World} {g : Nat} {m0 : Mv} (h : MBox w g m0) (m : Mv) : MBox ((((((((((((w.setCell ⟨g, 0, none⟩ (.bool m.S.s)).setCell ⟨g, 1, none⟩ (.slice m.S.A m.S.n m.S.c)).setCell ⟨g, 2, none⟩ (.int .i64 m.S.e)).setCell ⟨g, 3, none⟩ (.bool m.W.s)).setCell ⟨g, 4, none⟩ (.slice m.W.A m.W.n m.W.c)).setCell ⟨g, 5, none⟩ (.int .i64 m.W.e)).setCell ⟨g, 6, none⟩ (.bool m.C.s)).setCell ⟨g, 7, none⟩ (.slice m.C.A m.C.n m.C.c)).setCell ⟨g, 8, none⟩ (.int .i64 m.C.e)).setCell ⟨g, 9, none⟩ (.bool m.A.s)).setCell ⟨g, 10, none⟩ (.slice m.A.A m.A.n m.A.c)).setCell ⟨g, 11, none⟩ (.int .i64 m.A.e)) g m :=
  ((((h.put (x := 0) (by decide) m.S).put (x := 1) (by decide) m.W).put (x := 2) (by decide) m.C).put (x := 3) (by decide) m.A)
def ZM : Mv := ⟨⟨false, none, 0, 0, 0, []⟩, ⟨false, none, 0, 0, 0, []⟩, ⟨false, none, 0, 0, 0, []⟩, ⟨false, none, 0, 0, 0, []⟩⟩
/-- A twin: the same but for where it lies. -/
def TwinV (d d' : Dv) : Prop := d'.s = d.s ∧ d'.n = d.n ∧ d'.e = d.e ∧ d'.xs = d.xs ∧ d'.n ≤ d'.c
end Ma
end Go.Proofs.Ytbbnbgllgomolaa
namespace Go.Proofs.Ytbbnbgllgomolaa
open Go.RowKit
namespace Dy
open Dp
/-- Cells that may be written. -/
def WrD (w : World) (b off n : Nat) : Prop := ∀ j, j < n → (∃ u, w.cell? ⟨b, off + j, none⟩ = some u) ∧ w.frozen? ⟨b, off + j, none⟩ = false
/-- What lies from hi on stays, too. -/
def From (hi : Nat) (w w' : World) : Prop := ∀ k, hi ≤ k → k < w.heap.size → w'.heap[k]? = w.heap[k]?
theorem From.setCell {hi : Nat} {w0 w : World} (h : From hi w0 w) {p : Addr} (hp : p.block < hi) (v : Value) : From hi w0 (w.setCell p v) := fun k h1 h2 => by
  rw [← h k h1 h2]
  exact Below.heap_setCell _ _ _ _ (by omega)
end Dy
end Go.Proofs.Ytbbnbgllgomolaa
namespace Go.Proofs.Ytbbnbgllgomolaa
open Go.RowKit
namespace Ma
open Dp Dy
attribute [local go_sem] Oper.semAt_some
def ResV (W : World) (lo : Nat) (r : Dn) (d : Dv) : Prop := d.s = r.neg ∧ d.e = r.e ∧ d.xs = canon 4294967296 r.m ∧ d.n ≤ d.c ∧ Ints W lo W.heap.size .u32 d.A d.n d.xs
noncomputable def xAdd (a b : Mv) (j : Nat) : Dn × Int := addX (a.get j).s (a.get j).xs (a.get j).e (b.get j).s (b.get j).xs (b.get j).e
end Ma
end Go.Proofs.Ytbbnbgllgomolaa
