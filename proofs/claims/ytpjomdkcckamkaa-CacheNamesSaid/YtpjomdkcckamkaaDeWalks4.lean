/- Descriptors in order: walks. -/
import Derived.Test.YtpjomdkcckamkaaDeWalks3
import Derived.Test.YtpjomdkcckamkaaDeShelf
import Derived.Shelf.SlSortCmp.NoneTotal
namespace Go.Proofs.Ytpjomdkcckamkaa
open Go.RowKit Go.Sort Go.Shelf
namespace De
set_option maxHeartbeats 400000 in
/-- desc.Order's closure. -/
theorem ord_closure (W : World) (x y z u : Int) (r : Int) (hr : cf (x, y) (z, u) = r) :
    Calls Try.prog 62 #[.agg #[.int .i64 x, .int .i64 y], .agg #[.int .i64 z, .int .i64 u]] W fun e w' => e = .returned (.int .i64 r) ∧ ∃ q os, w' = grow (W.drewN q) os := by
  have HR := Lib.hid hr
  clear hr
  go_enter Try.func62, Try.ntmps62
  go_wp2_with fail
  refine (comp_any _ x y z u r HR.out).mono ?_
  rintro e w' ⟨rfl, q, os, rfl⟩
  go_wp2
  go_ret
  exact ⟨rfl, q, #[_, _] ++ os, by rw [alloc_eq_grow, alloc_eq_grow, grow_grow]; show grow (grow (W.drewN q) _) os = _; rw [grow_grow]; rfl⟩

theorem cmpLays (blk off size : Nat) (w : World) : CmpLays Try.prog 62 #[] encD 2 cf blk off size w :=
  fun _ _ _ _ x y => ord_closure _ x.1 x.2 y.1 y.2 _ rfl
theorem ltOf_cf (x y : Int × Int) : ltOf cf x y = ltB x y := cf_lt x y
theorem swo : SWO (ltOf cf) where
  irrefl x := by rw [ltOf_cf]; exact lt_irr x
  trans x y z h1 h2 := by rw [ltOf_cf] at *; exact lt_trans h1 h2
  ntrans x y z h1 h2 := by rw [ltOf_cf] at *; exact lt_ntrans h1 h2
theorem agg_D : ∀ w, (isAgg 29).run Try.prog w = .ok true w := Try.isAgg29
theorem size_D : ∀ w, (Go.sizeOf 29).run Try.prog w = .ok 2 w := Try.sizeOf29
theorem holds_of {w : World} {lo hi b off n : Nat} {xs : List (Int × Int)} (h : Descs w lo hi (some ⟨b, off, none⟩) n xs) : HoldsK encD 2 w b off xs.toArray := by
  intro t ht
  rw [size_flatK] at ht
  have hl := h.len
  simp only [List.size_toArray] at ht
  rw [get_flatK _ _ _ _ (by simpa using ht)]
  obtain ⟨b', off', e, _, _, hc⟩ := h.row (by omega)
  injection e with e
  injection e with e1 e2
  subst e1
  subst e2
  obtain ⟨⟨a1, a2⟩, a3, a4⟩ := hc (t / 2) (by omega)
  have hx : xs.toArray[t / 2]! = xs[t / 2]?.getD (0, 0) := by
    rw [getElem!_pos xs.toArray (t / 2) (by simp; omega), List.getElem?_eq_getElem (by omega)]
    rfl
  rw [hx]
  rcases Nat.mod_two_eq_zero_or_one t with he | he
  · rw [he]
    have ej : off + t = off + t / 2 * 2 := by omega
    rw [ej]
    exact ⟨a1, a2⟩
  · rw [he]
    have ej : off + t = off + t / 2 * 2 + 1 := by omega
    rw [ej]
    exact ⟨a3, a4⟩
theorem of_holds {w : World} {b off : Nat} {d : Array (Int × Int)} (h : HoldsK encD 2 w b off d) (hw : ∀ x ∈ d.toList, Rng x) (hn : d.size ≤ 9223372036854775807) : Descs w b (b + 1) (some ⟨b, off, none⟩) d.size d.toList := by
  refine ⟨by simp, hw, hn, fun _ => ⟨b, off, rfl, Nat.le_refl _, by omega, fun j hj => ?_⟩⟩
  have hx : d.toList[j]?.getD (0, 0) = d[j]! := by
    rw [getElem!_pos d j hj, Array.getElem?_toList, Array.getElem?_eq_getElem hj]
    rfl
  rw [hx]
  have c0 := h.cell (i := j) (c := 0) hj (by omega)
  have c1 := h.cell (i := j) (c := 1) hj (by omega)
  exact ⟨c0, c1⟩
theorem below_sort {B : Nat} {w : World} {b off m : Nat} {d : Array (Int × Int)} {os : Array Obj} (hB : B ≤ b) (hb : b < w.heap.size) : Below B w (sortWorldK encD 2 w b off m d os) := by
  refine ⟨rfl, rfl, rfl, size_sortWorldK_c encD 2 w b off m d os, fun k hk => ?_⟩
  unfold sortWorldK
  rw [heap_grow_old _ _ (by rw [size_putRowK]; show k < w.heap.size; omega)]
  show (w.heap.modify b _)[k]? = _
  rw [Array.getElem?_modify, if_neg (by omega)]

def OrdPost (w : World) (n : Nat) (xs : List (Int × Int)) (e : Ending) (w' : World) : Prop :=
  ∃ A' c' rb, e = .returned (.tuple #[.slice A' n c', .int .i64 0]) ∧ n ≤ c' ∧ Below w.heap.size w w' ∧ (0 < n → w.heap.size ≤ rb) ∧ rb < w'.heap.size ∧ Descs w' rb (rb + 1) A' n (srt xs)

set_option maxHeartbeats 800000 in
/-- desc.Order, of descriptors that may be. -/
theorem Order_ok (w : World) (lo hi : Nat) (A : Option Addr) (n c : Nat) (xs : List (Int × Int)) (hX : Descs w lo hi A n xs) (hhi : hi ≤ w.heap.size) (h0 : 0 < w.heap.size) (hr : check xs = 0) :
    Calls Try.prog 23 #[.slice A n c] w (OrdPost w n xs) := by
  have HL := Lib.hid hX.len
  have hbig := hX.big
  have HR := Lib.hid hr
  have hn64 : n ≤ 64 := by rw [← HL.out]; exact (check_mem hr).1
  clear hr
  go_enter Try.func23, Try.ntmps23
  go_wp2_with fail
  refine (Check_any _ lo hi A n c xs hX hhi h0 0 HR.out).mono ?_
  rintro e w1 ⟨rfl, hb1⟩
  go_wp2_with fail
  refine (Clone_any _ lo hi A n c xs (hX.below hb1 hhi) (by have := hb1.size; omega) (by omega)).mono ?_
  rintro e w2 ⟨A2, c2, rfl, hc2, hb2, hown⟩
  have hsz1 := hb1.size
  have hsz2 := hb2.size
  have hb12 := hb1.trans (hb2.mono hsz1)
  by_cases hn : n = 0
  · subst hn
    have hx0 := hX.zero rfl
    subst hx0
    have hs := AnyF.slices_SortFunc_none (P := Try.prog) (ρ := Try.sortD_ren) Try.sortD A2 c2 (.func (.func 62) #[] #[]) w2
    change Calls Try.prog 61 _ _ _ at hs
    have HS := Lib.hid hs
    clear hs hown
    go_wp2_with fail
    refine HS.out.mono ?_
    rintro e w3 ⟨rfl, rfl⟩
    go_wp2
    go_ret2
    exact ⟨A2, c2, 0, rfl, hc2, hb12, fun h => absurd h (by omega), by omega, Descs.nil_ ..⟩
  · obtain ⟨g, rfl, hg1, hg2, hD0⟩ : ∃ g, A2 = some ⟨g, 0, none⟩ ∧ w1.heap.size ≤ g ∧ g < w2.heap.size ∧ Descs w2 w1.heap.size w2.heap.size A2 n xs := by
      have hD := Descs.of_own hown hX.wf hbig
      obtain ⟨b, off, e, h1, h2, _⟩ := hD.row (by omega)
      rcases hown.2 with ⟨_, h3⟩ | ⟨g, cap, cur, hv, hg, hh, hnc, hcm, hcs, ht⟩
      · omega
      · injection hv with ha
        subst ha
        injection e with e
        injection e with e1 e2
        subst e1
        exact ⟨g, rfl, h1, h2, hD⟩
    have hs := AnyQ.slices_SortFunc (P := Try.prog) (ρ := Try.sortD_ren) Try.sortD 2 agg_D size_D encD (fun _ => rfl) (fun x v hv => by simp [encD] at hv; rcases hv with rfl | rfl <;> rfl) cf swo 62 #[] g 0 c2 xs.toArray w2
      (enters_of Try.func62 (by kernel_rfl) rfl) (cmpLays g 0 _ w2) (holds_of hD0) hg2 (by have := HL.out; simp; omega)
    change Calls Try.prog 61 _ _ _ at hs
    have hsz : xs.toArray.size = n := by have := HL.out; simpa using this
    rw [hsz] at hs
    have HS := Lib.hid hs
    have HH := Lib.hid (holds_of hD0)
    have hwf := Lib.hid hX.wf
    have HSZ := Lib.hid hsz
    clear hs hown hD0 hsz hX
    go_wp2_with fail
    refine HS.out.mono ?_
    rintro e w3 ⟨rfl, d', m, os, hp, hsrt, hw3⟩
    have hb3 : Below w1.heap.size w2 w3 := by rw [hw3]; exact below_sort hg1 hg2
    have hd : d'.size = n := by have := hp.1; rw [HSZ.out] at this; exact this
    have hperm : d'.toList.Perm xs := by
      have := hp.2.2
      have e1 : d'.extract 0 n = d' := by rw [← hd]; simp
      have e2 : xs.toArray.extract 0 n = xs.toArray := by rw [← HSZ.out]; simp
      rw [e1, e2] at this
      exact this
    have hS : Srt d'.toList := by
      unfold Srt
      rw [List.pairwise_iff_getElem]
      intro i j hi hj hij
      have := hsrt i j (Nat.zero_le _) hij (by simpa [hd] using hj)
      rw [ltOf_cf] at this
      simpa [getElem!_pos d' j (by simpa using hj), getElem!_pos d' i (by simpa using hi)] using this
    have hsr := srt_of hperm hS
    have hH3 : HoldsK encD 2 w3 g 0 d' := by
      rw [hw3]
      exact holdsK_sortWorldK_c encD 2 w2 g 0 xs.toArray d' m os HH.out hg2 (by rw [HSZ.out]; exact hd)
    have hD3 := of_holds hH3 (fun x hx => hwf.out x (hperm.mem_iff.1 hx)) (by omega)
    rw [hd, hsr] at hD3
    have HD3 := Lib.hid hD3
    have hsz3 := hb3.size
    clear hw3 hd hperm hS hsr hH3 hD3 hp hsrt HS HH
    go_wp2
    go_ret2
    exact ⟨_, c2, g, rfl, hc2, hb12.trans (hb3.mono hsz1), fun _ => by omega, by omega, HD3.out⟩

/-- desc.Order, of descriptors that may not be. -/
theorem Order_bad (w : World) (lo hi : Nat) (A : Option Addr) (n c : Nat) (xs : List (Int × Int)) (hX : Descs w lo hi A n xs) (hhi : hi ≤ w.heap.size) (h0 : 0 < w.heap.size) (r : Int) (hr : check xs = r) (hne : (r == 0) = false) :
    Calls Try.prog 23 #[.slice A n c] w fun e w' => e = .returned (.tuple #[.slice none 0 0, .int .i64 r]) ∧ Below w.heap.size w w' := by
  have HR := Lib.hid hr
  have hne2 : (r != 0) = true := by simpa using hne
  clear hr
  go_enter Try.func23, Try.ntmps23
  go_wp2_with fail
  refine (Check_any _ lo hi A n c xs hX hhi h0 r HR.out).mono ?_
  rintro e w1 ⟨rfl, hb1⟩
  go_wp2
  go_ret2
  exact ⟨rfl, hb1⟩
end De
end Go.Proofs.Ytpjomdkcckamkaa
