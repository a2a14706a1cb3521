/- CacheNames: the walk (printed by a program of mine). -/
import Derived.Test.YtpjomdkcckamkaaCaOffers
import Derived.Test.YtpjomdkcckamkaaDeNames
import Derived.Test.YtpjomdkcckamkaaRegionE
import Derived.Test.YtpjomdkcckamkaaRegionE2
import Derived.Test.YtpjomdkcckamkaaRegionC
import Derived.Deep.MidRow
import Derived.Deep.WholeRow
namespace Go.Proofs.Ytpjomdkcckamkaa
open Go.RowKit Go.Sort Go.Shelf
namespace De
theorem later {a b c : World} (h : Below a.heap.size a b) (k : Below b.heap.size b c) : Below a.heap.size a c := h.trans (k.mono h.size)
theorem box_later {w w' : World} {g : Nat} {o : Obj} (h : w.heap[g]? = some o) (hb : Below w.heap.size w w') (hg : g < w.heap.size) : w'.heap[g]? = some o := (hb.block g hg).trans h
def Keeps (W w : World) : Prop := ∀ p, p < W.heap.size → w.heap[p]? = W.heap[p]?
theorem lt_of_heapC {w : World} {g : Nat} {o : Obj} (h : w.heap[g]? = some o) : g < w.heap.size := (Array.getElem?_eq_some_iff.1 h).1
theorem descs_on {w w' : World} {A : Option Addr} {n : Nat} {xs : List (Int × Int)} (h : Descs w 0 w.heap.size A n xs) (hb : Below w.heap.size w w') : Descs w' 0 w'.heap.size A n xs := (h.below hb (Nat.le_refl _)).more (Nat.le_refl _) hb.size
/-- A cache in a block. -/
def CBox (w : World) (g : Nat) (o p : Int) (A : Option Addr) (n c : Nat) : Prop := w.heap[g]? = some (.cells #[.int .i64 o, .int .i64 p, .slice A n c] 43 (0, 0))
theorem CBox.range {w : World} {g n c : Nat} {o p : Int} {A : Option Addr} (h : CBox w g o p A n c) : w.rangeAt g 0 [.int .i64 o, .int .i64 p, .slice A n c] := fun j v hj => by
  rw [Nat.zero_add, cell_of_row w g j _ _ _ h]
  simpa using hj
theorem CBox.there {w : World} {g n c : Nat} {o p : Int} {A : Option Addr} (h : CBox w g o p A n c) : w.there g 0 3 := fun j hj =>
  ⟨by rw [h.range j _ (List.getElem?_eq_getElem (by simpa using hj))]; rfl, frozen_of_row w g _ _ _ h⟩
theorem one3 (o p : Int) (A : Option Addr) (n c : Nat) : ∀ u ∈ [(.int .i64 o : Value), .int .i64 p, .slice A n c], u.oneCell' = true := by
  intro u hu
  simp only [List.mem_cons, List.not_mem_nil, or_false] at hu
  rcases hu with rfl | rfl | rfl <;> rfl
theorem alloc_cz (w : World) : ∃ U, w.alloc (.cells #[.int .i64 0, .int .i64 0, .slice none 0 0] 43) = U ∧ CBox U w.heap.size 0 0 none 0 0 ∧ Below w.heap.size w U ∧ w.heap.size < U.heap.size :=
  ⟨_, rfl, heap_alloc_last _ _, (Below.refl _ w).alloc (Nat.le_refl _) _, by simp⟩
theorem cache_into {w : World} {g n c : Nat} {o p : Int} {A : Option Addr} (h : CBox w g o p A n c) (o' p' : Int) (A' : Option Addr) (n' c' : Nat) : ∃ U, w.setCells g 0 [.int .i64 o', .int .i64 p', .slice A' n' c'] = U ∧ CBox U g o' p' A' n' c' ∧ (∀ w0 B, Below B w0 w → B ≤ g → Below B w0 U) ∧ (∀ j, j ≠ g → U.heap[j]? = w.heap[j]?) ∧ U.heap.size ≤ w.heap.size ∧ w.heap.size ≤ U.heap.size := by
  refine ⟨_, rfl, ?_, fun w0 B hb hg => ?_, fun j hj => ?_, ?_, ?_⟩
  · unfold CBox at h ⊢
    simp [World.setCells, World.setCell, Array.getElem?_modify, h]
  · simp only [World.setCells]
    repeat (refine Below.setCell ?_ hg _)
    exact hb
  · have hj' : ¬ g = j := fun e => hj e.symm
    simp [World.setCells, World.setCell, Array.getElem?_modify, hj']
  · simp [World.setCells, World.setCell]
  · simp [World.setCells, World.setCell]
theorem list_into {w : World} {g n c : Nat} {o p : Int} {A : Option Addr} (h : CBox w g o p A n c) (A' : Option Addr) (n' c' : Nat) : ∃ U, w.setCell ⟨g, 2, none⟩ (.slice A' n' c') = U ∧ CBox U g o p A' n' c' ∧ (∀ w0 B, Below B w0 w → B ≤ g → Below B w0 U) ∧ (∀ j, j ≠ g → U.heap[j]? = w.heap[j]?) ∧ U.heap.size ≤ w.heap.size ∧ w.heap.size ≤ U.heap.size := by
  refine ⟨_, rfl, ?_, fun w0 B hb hg => Below.setCell hb hg _, fun j hj => ?_, ?_, ?_⟩
  · unfold CBox at h ⊢
    simp [World.setCell, Array.getElem?_modify, h]
  · have hj' : ¬ g = j := fun e => hj e.symm
    simp [World.setCell, Array.getElem?_modify, hj']
  · simp [World.setCell]
  · simp [World.setCell]
theorem descs_far {w w' : World} {lo hi g n : Nat} {A : Option Addr} {xs : List (Int × Int)} (h : Descs w lo hi A n xs) (hg : g < lo ∨ hi ≤ g) (hf : ∀ j, j ≠ g → w'.heap[j]? = w.heap[j]?) : Descs w' lo hi A n xs :=
  h.keep fun q h1 h2 => ⟨World.cell?_of_block (hf _ (by omega)), World.frozen?_of_block (hf _ (by omega))⟩
theorem make_descs (w : World) : ∃ w', (Instr.makeSlice 22 (.int .i64 64) (.int .i64 64)).run Try.prog w = .ok (.slice (some ⟨w.heap.size, 0, none⟩) 64 64) w' ∧ Descs w' 0 w'.heap.size (some ⟨w.heap.size, 0, none⟩) 64 (zeros 64) ∧ Below w.heap.size w w' := by
  obtain ⟨i0, hi0, hz0, hz1, hz2⟩ := info_parts Try.info29
  obtain ⟨w', hr, hown, hg⟩ := run_makeSlice_full (P := Try.prog) w w.heap.size 22 29 i0 _ 2 Try.underlying22 hi0 hz0 hz1 .i64 .i64 64 (by decide) (by rw [hz2]; decide) (by decide) (Nat.le_refl _)
  rw [made_zeros] at hown
  exact ⟨w', hr, (Descs.of_own hown (rng_zeros 64) (by decide)).more (Nat.zero_le _) (Nat.le_refl _), (Below.refl _ _).grown hg (Nat.le_refl _) (fun k hk => absurd hk (by simp))⟩
set_option maxHeartbeats 51200000 in
set_option maxRecDepth 100000 in
/-- headcountlaw08.CacheNames. -/
theorem cnames_walk (w : World) : Calls Try.prog 10 #[] w fun e w' => e = .returned (.bool true) ∧ Below w.heap.size w w' := by
  have m1 := Lib.hid (show (if mayC 1 3 [(2, 5), (0, 5)] = true then (0 : Int) else 8) = 8 by decide +kernel)
  have m2 := Lib.hid (show (if mayC 1 3 [(1, 5)] = true then (0 : Int) else 8) = 8 by decide +kernel)
  have m3 := Lib.hid (show (if mayC 1 3 [(2, 5), (2, 4)] = true then (0 : Int) else 8) = 8 by decide +kernel)
  have m4 := Lib.hid (show (if mayC 1 3 [(2, 5)] = true then (0 : Int) else 8) = 0 by decide +kernel)
  have m5 := Lib.hid (show offerC 1 3 [(2, 5)] (-1) = 2 by decide +kernel)
  have m6 := Lib.hid (show mergeC 1 3 [(2, 5)] (zeros 64) = 4 by decide +kernel)
  have m7 := Lib.hid (show mergeC 1 3 [(2, 5)] [(9, 0)] = 8 by decide +kernel)
  have o6 := Lib.hid (show mergeO 1 3 [(2, 5)] (zeros 64) = 0 by unfold mergeO; rw [m6.out]; rfl)
  have p6 := Lib.hid (show mergeP 1 3 [(2, 5)] (zeros 64) = 0 by unfold mergeP; rw [m6.out]; rfl)
  have o7 := Lib.hid (show mergeO 1 3 [(2, 5)] [(9, 0)] = 0 by unfold mergeO; rw [m7.out]; rfl)
  have p7 := Lib.hid (show mergeP 1 3 [(2, 5)] [(9, 0)] = 0 by unfold mergeP; rw [m7.out]; rfl)
  go_enter Try.func10, Try.ntmps10
  go_wp2_with fail
  refine ((New_any w 8 1 0 0 2 (by decide)).mono (fun _ _ h => And.intro h.1 h.2.below)).mono ?_
  rintro e' v1 ⟨rfl, j2⟩
  try clear hw
  have j4 := (Below.refl v1.heap.size v1).alloc (Nat.le_refl _) (.cells #[.int .i64 0, .int .i64 0, .slice none 0 0] 43)
  have b1 := heap_alloc_last v1 (.cells #[.int .i64 0, .int .i64 0, .slice none 0 0] 43)
  have s5 : v1.heap.size < (v1.alloc (.cells #[.int .i64 0, .int .i64 0, .slice none 0 0] 43)).heap.size := by simp
  go_wp2_with fail
  generalize hw : v1.alloc (.cells #[.int .i64 0, .int .i64 0, .slice none 0 0] 43) = v3 at *
  clear hw
  go_wp2_with fail
  refine ((New_any v3 0 7 0 0 2 (by decide)).mono (fun _ _ h => And.intro h.1 h.2.below)).mono ?_
  rintro e' v6 ⟨rfl, j7⟩
  try clear hw
  have j9 := (Below.refl v6.heap.size v6).alloc (Nat.le_refl _) (.cells #[.int .i64 0, .int .i64 0, .slice none 0 0] 43)
  have b3 := heap_alloc_last v6 (.cells #[.int .i64 0, .int .i64 0, .slice none 0 0] 43)
  have s10 : v6.heap.size < (v6.alloc (.cells #[.int .i64 0, .int .i64 0, .slice none 0 0] 43)).heap.size := by simp
  go_wp2_with fail
  generalize hw : v6.alloc (.cells #[.int .i64 0, .int .i64 0, .slice none 0 0] 43) = v8 at *
  clear hw
  go_wp2_with fail
  refine ((New_any v8 1 3 1 3 0 (by decide)).mono (fun _ _ h => And.intro h.1 h.2.below)).mono ?_
  rintro e' v11 ⟨rfl, j12⟩
  try clear hw
  have j14 := (Below.refl v11.heap.size v11).alloc (Nat.le_refl _) (.cells #[.int .i64 1, .int .i64 3, .slice none 0 0] 43)
  have b5 := heap_alloc_last v11 (.cells #[.int .i64 1, .int .i64 3, .slice none 0 0] 43)
  have s15 : v11.heap.size < (v11.alloc (.cells #[.int .i64 1, .int .i64 3, .slice none 0 0] 43)).heap.size := by simp
  go_upto_region 4 with fail
  generalize hw : v11.alloc (.cells #[.int .i64 1, .int .i64 3, .slice none 0 0] 43) = v13 at *
  clear hw
  have l5 : w.heap.size ≤ v11.heap.size := Below.size (later j2 (later j4 (later j7 (later j9 j12))))
  have de := descs_new v13 #[.int .i64 2, .int .i64 5, .int .i64 0, .int .i64 5] 29 2 [(2, 5), (0, 5)] rfl rfl (rng_of (by decide)) (by decide)
  obtain ⟨x16, h18⟩ : ∃ X, v13.alloc (.cells #[.int .i64 2, .int .i64 5, .int .i64 0, .int .i64 5] 29) = X := ⟨_, rfl⟩
  rw [h18] at de
  have j17 : Below v13.heap.size v13 x16 := by rw [← h18]; exact (Below.refl _ _).alloc (Nat.le_refl _) _
  have se : v13.heap.size < x16.heap.size := by rw [← h18]; simp
  have bx_ : CBox x16 v11.heap.size 1 3 none 0 0 := (box_later b5 j17 s15)
  obtain ⟨⟨p0, p1, p2⟩, p3, p4, p5⟩ := cells3 bx_
  obtain ⟨u19, hU, Be, hb_, hf_, l1, l2⟩ := list_into bx_ (some ⟨v13.heap.size, 0, none⟩) 2 2
  go_upto_region 5 with fail
  try rw [h18]
  try rw [hU]
  try clear h18
  try clear hU
  clear p0 p1 p2 p3 p4 p5
  have fine := hb_ _ _ (later j2 (later j4 (later j7 (later j9 (later j12 (later j14 j17)))))) (by omega)
  have De : Descs u19 0 u19.heap.size (some ⟨v13.heap.size, 0, none⟩) 2 [(2, 5), (0, 5)] := (descs_far de (by omega) hf_).more (Nat.zero_le _) (by omega)
  have Ee := descs_far de (g := v11.heap.size) (by omega) hf_
  have lte := lt_of_heapC Be
  have sW5 : v13.heap.size < u19.heap.size := by omega
  try clear hw
  refine region_E (Keeps u19) [] (m := 8) (L := #[false, false, false, false, false, false, false, false]) (by kernel_rfl) (by rfl) (by rfl) ?_
  have j21 : Below u19.heap.size u19 u19.drew := (Below.refl _ _).drew
  generalize u19.drew = v20 at *
  have kpy22 : Keeps u19 v20 := fun p hp => Below.block j21 p hp
  refine readE (i := 0) (L := #[true, false, false, false, false, false, false, false]) (v := .agg #[.int .i64 1, .int .i64 3, .slice (some ⟨v13.heap.size, 0, none⟩) 2 2]) rfl (by rfl) (by kernel_rfl) (by kernel_rfl) (by kernel_rfl) (fun _ _ _ h => h) (by assumption) (by rfl) ?y22 ?z23
  case y22 =>
    intro w' h1
    obtain ⟨⟨p0, p1, p2⟩, p3, p4, p5⟩ := cells3 ((h1 _ lte).trans Be)
    go_simp
  try simp only [Act.put, List.setIfInBounds_toArray, List.set_cons_zero, List.set_cons_succ]
  have kpy24 : Keeps u19 v20 := fun p hp => Below.block j21 p hp
  refine readE (i := 2) (L := #[true, false, true, false, false, false, false, false]) (v := .agg #[.int .i64 1, .int .i64 3, .slice (some ⟨v13.heap.size, 0, none⟩) 2 2]) rfl (by rfl) (by kernel_rfl) (by kernel_rfl) (by kernel_rfl) (fun _ _ _ h => h) (by assumption) (by rfl) ?y24 ?z25
  case y24 =>
    intro w' h1
    obtain ⟨⟨p0, p1, p2⟩, p3, p4, p5⟩ := cells3 ((h1 _ lte).trans Be)
    go_simp
  try simp only [Act.put, List.setIfInBounds_toArray, List.set_cons_zero, List.set_cons_succ]
  refine E_of_C (fun (A : Act) a' w' => ∃ (A7 A8 : Option Addr) (c7 c8 g7 g8 : Nat), a' = ((((A.put (some 33) (.agg #[.int .i64 1, .int .i64 3, .slice A7 2 c7])).put (some 35) (.agg #[.int .i64 1, .int .i64 3, .slice A8 2 c8])).put (some 7) (.pointer (some ⟨g7, 0, none⟩))).put (some 8) (.pointer (some ⟨g8, 0, none⟩))) ∧ u19.heap.size ≤ g7 ∧ u19.heap.size ≤ g8 ∧ g7 ≠ g8 ∧ CBox w' g7 0 0 none 0 0 ∧ CBox w' g8 0 0 none 0 0 ∧ Below u19.heap.size u19 w') #[true, true, true, true, true, true, false, false] 2 ?leaf ?tree
  case tree =>
    have zv20 : u19.heap.size ≤ v20.heap.size := Below.size j21
    
    refine stepC3 (i := 1) (j := 4) (k := 5) (Li := #[true, true, true, false, false, false, false, false]) (Lj := #[true, false, true, false, true, false, false, false]) (Lk := #[true, false, true, false, false, true, false, false]) rfl rfl rfl (by rfl) (by rfl) (by rfl) (by kernel_rfl) (by rfl) (by rfl) (by rfl) (fun K hK => ?o1_1) (fun K hK => ?o1_4) (fun K hK => ?o1_5)
    case o1_1 =>
      
      go_simp
      go_at_call 36
      refine (TwinC_any v20 1 3 0 v20.heap.size (some ⟨v13.heap.size, 0, none⟩) 2 2 _ (descs_on De j21) (Nat.le_refl _) (by decide)).mono ?_
      rintro e' v26 ⟨A7, c7, rfl, hc7, j27, sz7, E7⟩
      clear E7 hc7
      have zv26 : v20.heap.size ≤ v26.heap.size := Below.size j27
      refine hK _ _ ⟨fun _ _ => fun p hp => Below.block (later j21 j27) p hp, ?_⟩
      clear hK K
      try simp only [Act.put, List.setIfInBounds_toArray, List.set_cons_zero, List.set_cons_succ]
      refine stepC3 (i := 3) (j := 4) (k := 5) (Li := #[true, true, true, true, false, false, false, false]) (Lj := #[true, true, true, false, true, false, false, false]) (Lk := #[true, true, true, false, false, true, false, false]) rfl rfl rfl (by rfl) (by rfl) (by rfl) (by kernel_rfl) (by rfl) (by rfl) (by rfl) (fun K hK => ?o2_3) (fun K hK => ?o2_4) (fun K hK => ?o2_5)
      case o2_3 =>
        
        go_simp
        go_at_call 36
        refine (TwinC_any v26 1 3 0 v26.heap.size (some ⟨v13.heap.size, 0, none⟩) 2 2 _ (descs_on De (later j21 j27)) (Nat.le_refl _) (by decide)).mono ?_
        rintro e' v28 ⟨A8, c8, rfl, hc8, j29, sz8, E8⟩
        clear E8 hc8
        have zv28 : v26.heap.size ≤ v28.heap.size := Below.size j29
        refine hK _ _ ⟨fun _ _ => fun p hp => Below.block (later j21 (later j27 j29)) p hp, ?_⟩
        clear hK K
        try simp only [Act.put, List.setIfInBounds_toArray, List.set_cons_zero, List.set_cons_succ]
        refine stepC2 (i := 4) (j := 5) (Li := #[true, true, true, true, true, false, false, false]) (Lj := #[true, true, true, true, false, true, false, false]) rfl rfl (by rfl) (by rfl) (by kernel_rfl) (by rfl) (by rfl) (fun K hK => ?o3_4) (fun K hK => ?o3_5)
        case o3_4 =>
          
          go_simp
          obtain ⟨v30, hc_, z7, j31, s32⟩ := alloc_cz v28
          rw [hc_]
          clear hc_
          have zv30 : v28.heap.size ≤ v30.heap.size := Below.size j31
          refine hK _ _ ⟨fun _ _ => fun p hp => Below.block (later j21 (later j27 (later j29 j31))) p hp, ?_⟩
          clear hK K
          try simp only [Act.put, List.setIfInBounds_toArray, List.set_cons_zero, List.set_cons_succ]
          refine stepC (i := 5) (L := #[true, true, true, true, true, true, false, false]) rfl (by rfl) (by kernel_rfl) (by rfl) (fun K hK => ?_)
          go_simp
          obtain ⟨v33, hc_, z8, j34, s35⟩ := alloc_cz v30
          rw [hc_]
          clear hc_
          have zv33 : v30.heap.size ≤ v33.heap.size := Below.size j34
          refine hK _ _ ⟨fun _ _ => fun p hp => Below.block (later j21 (later j27 (later j29 (later j31 j34)))) p hp, ?_⟩
          clear hK K
          try simp only [Act.put, List.setIfInBounds_toArray, List.set_cons_zero, List.set_cons_succ]
          exact leafC ⟨A7, A8, c7, c8, v28.heap.size, v30.heap.size, rfl, by omega, by omega, by omega, (box_later z7 j34 s32), z8, (later j21 (later j27 (later j29 (later j31 j34))))⟩
        case o3_5 =>
          
          go_simp
          obtain ⟨v36, hc_, z8, j37, s38⟩ := alloc_cz v28
          rw [hc_]
          clear hc_
          have zv36 : v28.heap.size ≤ v36.heap.size := Below.size j37
          refine hK _ _ ⟨fun _ _ => fun p hp => Below.block (later j21 (later j27 (later j29 j37))) p hp, ?_⟩
          clear hK K
          try simp only [Act.put, List.setIfInBounds_toArray, List.set_cons_zero, List.set_cons_succ]
          refine stepC (i := 4) (L := #[true, true, true, true, true, true, false, false]) rfl (by rfl) (by kernel_rfl) (by rfl) (fun K hK => ?_)
          go_simp
          obtain ⟨v39, hc_, z7, j40, s41⟩ := alloc_cz v36
          rw [hc_]
          clear hc_
          have zv39 : v36.heap.size ≤ v39.heap.size := Below.size j40
          refine hK _ _ ⟨fun _ _ => fun p hp => Below.block (later j21 (later j27 (later j29 (later j37 j40)))) p hp, ?_⟩
          clear hK K
          try simp only [Act.put, List.setIfInBounds_toArray, List.set_cons_zero, List.set_cons_succ]
          exact leafC ⟨A7, A8, c7, c8, v36.heap.size, v28.heap.size, rfl, by omega, by omega, by omega, z7, (box_later z8 j40 s38), (later j21 (later j27 (later j29 (later j37 j40))))⟩
      case o2_4 =>
        
        go_simp
        obtain ⟨v42, hc_, z7, j43, s44⟩ := alloc_cz v26
        rw [hc_]
        clear hc_
        have zv42 : v26.heap.size ≤ v42.heap.size := Below.size j43
        refine hK _ _ ⟨fun _ _ => fun p hp => Below.block (later j21 (later j27 j43)) p hp, ?_⟩
        clear hK K
        try simp only [Act.put, List.setIfInBounds_toArray, List.set_cons_zero, List.set_cons_succ]
        refine stepC2 (i := 3) (j := 5) (Li := #[true, true, true, true, true, false, false, false]) (Lj := #[true, true, true, false, true, true, false, false]) rfl rfl (by rfl) (by rfl) (by kernel_rfl) (by rfl) (by rfl) (fun K hK => ?o4_3) (fun K hK => ?o4_5)
        case o4_3 =>
          
          go_simp
          go_at_call 36
          refine (TwinC_any v42 1 3 0 v42.heap.size (some ⟨v13.heap.size, 0, none⟩) 2 2 _ (descs_on De (later j21 (later j27 j43))) (Nat.le_refl _) (by decide)).mono ?_
          rintro e' v45 ⟨A8, c8, rfl, hc8, j46, sz8, E8⟩
          clear E8 hc8
          have zv45 : v42.heap.size ≤ v45.heap.size := Below.size j46
          refine hK _ _ ⟨fun _ _ => fun p hp => Below.block (later j21 (later j27 (later j43 j46))) p hp, ?_⟩
          clear hK K
          try simp only [Act.put, List.setIfInBounds_toArray, List.set_cons_zero, List.set_cons_succ]
          refine stepC (i := 5) (L := #[true, true, true, true, true, true, false, false]) rfl (by rfl) (by kernel_rfl) (by rfl) (fun K hK => ?_)
          go_simp
          obtain ⟨v47, hc_, z8, j48, s49⟩ := alloc_cz v45
          rw [hc_]
          clear hc_
          have zv47 : v45.heap.size ≤ v47.heap.size := Below.size j48
          refine hK _ _ ⟨fun _ _ => fun p hp => Below.block (later j21 (later j27 (later j43 (later j46 j48)))) p hp, ?_⟩
          clear hK K
          try simp only [Act.put, List.setIfInBounds_toArray, List.set_cons_zero, List.set_cons_succ]
          exact leafC ⟨A7, A8, c7, c8, v26.heap.size, v45.heap.size, rfl, by omega, by omega, by omega, (box_later z7 (later j46 j48) s44), z8, (later j21 (later j27 (later j43 (later j46 j48))))⟩
        case o4_5 =>
          
          go_simp
          obtain ⟨v50, hc_, z8, j51, s52⟩ := alloc_cz v42
          rw [hc_]
          clear hc_
          have zv50 : v42.heap.size ≤ v50.heap.size := Below.size j51
          refine hK _ _ ⟨fun _ _ => fun p hp => Below.block (later j21 (later j27 (later j43 j51))) p hp, ?_⟩
          clear hK K
          try simp only [Act.put, List.setIfInBounds_toArray, List.set_cons_zero, List.set_cons_succ]
          refine stepC (i := 3) (L := #[true, true, true, true, true, true, false, false]) rfl (by rfl) (by kernel_rfl) (by rfl) (fun K hK => ?_)
          go_simp
          go_at_call 36
          refine (TwinC_any v50 1 3 0 v50.heap.size (some ⟨v13.heap.size, 0, none⟩) 2 2 _ (descs_on De (later j21 (later j27 (later j43 j51)))) (Nat.le_refl _) (by decide)).mono ?_
          rintro e' v53 ⟨A8, c8, rfl, hc8, j54, sz8, E8⟩
          clear E8 hc8
          have zv53 : v50.heap.size ≤ v53.heap.size := Below.size j54
          refine hK _ _ ⟨fun _ _ => fun p hp => Below.block (later j21 (later j27 (later j43 (later j51 j54)))) p hp, ?_⟩
          clear hK K
          try simp only [Act.put, List.setIfInBounds_toArray, List.set_cons_zero, List.set_cons_succ]
          exact leafC ⟨A7, A8, c7, c8, v26.heap.size, v42.heap.size, rfl, by omega, by omega, by omega, (box_later z7 (later j51 j54) s44), (box_later z8 j54 s52), (later j21 (later j27 (later j43 (later j51 j54))))⟩
      case o2_5 =>
        
        go_simp
        obtain ⟨v55, hc_, z8, j56, s57⟩ := alloc_cz v26
        rw [hc_]
        clear hc_
        have zv55 : v26.heap.size ≤ v55.heap.size := Below.size j56
        refine hK _ _ ⟨fun _ _ => fun p hp => Below.block (later j21 (later j27 j56)) p hp, ?_⟩
        clear hK K
        try simp only [Act.put, List.setIfInBounds_toArray, List.set_cons_zero, List.set_cons_succ]
        refine stepC2 (i := 3) (j := 4) (Li := #[true, true, true, true, false, true, false, false]) (Lj := #[true, true, true, false, true, true, false, false]) rfl rfl (by rfl) (by rfl) (by kernel_rfl) (by rfl) (by rfl) (fun K hK => ?o5_3) (fun K hK => ?o5_4)
        case o5_3 =>
          
          go_simp
          go_at_call 36
          refine (TwinC_any v55 1 3 0 v55.heap.size (some ⟨v13.heap.size, 0, none⟩) 2 2 _ (descs_on De (later j21 (later j27 j56))) (Nat.le_refl _) (by decide)).mono ?_
          rintro e' v58 ⟨A8, c8, rfl, hc8, j59, sz8, E8⟩
          clear E8 hc8
          have zv58 : v55.heap.size ≤ v58.heap.size := Below.size j59
          refine hK _ _ ⟨fun _ _ => fun p hp => Below.block (later j21 (later j27 (later j56 j59))) p hp, ?_⟩
          clear hK K
          try simp only [Act.put, List.setIfInBounds_toArray, List.set_cons_zero, List.set_cons_succ]
          refine stepC (i := 4) (L := #[true, true, true, true, true, true, false, false]) rfl (by rfl) (by kernel_rfl) (by rfl) (fun K hK => ?_)
          go_simp
          obtain ⟨v60, hc_, z7, j61, s62⟩ := alloc_cz v58
          rw [hc_]
          clear hc_
          have zv60 : v58.heap.size ≤ v60.heap.size := Below.size j61
          refine hK _ _ ⟨fun _ _ => fun p hp => Below.block (later j21 (later j27 (later j56 (later j59 j61)))) p hp, ?_⟩
          clear hK K
          try simp only [Act.put, List.setIfInBounds_toArray, List.set_cons_zero, List.set_cons_succ]
          exact leafC ⟨A7, A8, c7, c8, v58.heap.size, v26.heap.size, rfl, by omega, by omega, by omega, z7, (box_later z8 (later j59 j61) s57), (later j21 (later j27 (later j56 (later j59 j61))))⟩
        case o5_4 =>
          
          go_simp
          obtain ⟨v63, hc_, z7, j64, s65⟩ := alloc_cz v55
          rw [hc_]
          clear hc_
          have zv63 : v55.heap.size ≤ v63.heap.size := Below.size j64
          refine hK _ _ ⟨fun _ _ => fun p hp => Below.block (later j21 (later j27 (later j56 j64))) p hp, ?_⟩
          clear hK K
          try simp only [Act.put, List.setIfInBounds_toArray, List.set_cons_zero, List.set_cons_succ]
          refine stepC (i := 3) (L := #[true, true, true, true, true, true, false, false]) rfl (by rfl) (by kernel_rfl) (by rfl) (fun K hK => ?_)
          go_simp
          go_at_call 36
          refine (TwinC_any v63 1 3 0 v63.heap.size (some ⟨v13.heap.size, 0, none⟩) 2 2 _ (descs_on De (later j21 (later j27 (later j56 j64)))) (Nat.le_refl _) (by decide)).mono ?_
          rintro e' v66 ⟨A8, c8, rfl, hc8, j67, sz8, E8⟩
          clear E8 hc8
          have zv66 : v63.heap.size ≤ v66.heap.size := Below.size j67
          refine hK _ _ ⟨fun _ _ => fun p hp => Below.block (later j21 (later j27 (later j56 (later j64 j67)))) p hp, ?_⟩
          clear hK K
          try simp only [Act.put, List.setIfInBounds_toArray, List.set_cons_zero, List.set_cons_succ]
          exact leafC ⟨A7, A8, c7, c8, v55.heap.size, v26.heap.size, rfl, by omega, by omega, by omega, (box_later z7 j67 s65), (box_later z8 (later j64 j67) s57), (later j21 (later j27 (later j56 (later j64 j67))))⟩
    case o1_4 =>
      
      go_simp
      obtain ⟨v68, hc_, z7, j69, s70⟩ := alloc_cz v20
      rw [hc_]
      clear hc_
      have zv68 : v20.heap.size ≤ v68.heap.size := Below.size j69
      refine hK _ _ ⟨fun _ _ => fun p hp => Below.block (later j21 j69) p hp, ?_⟩
      clear hK K
      try simp only [Act.put, List.setIfInBounds_toArray, List.set_cons_zero, List.set_cons_succ]
      refine stepC2 (i := 1) (j := 5) (Li := #[true, true, true, false, true, false, false, false]) (Lj := #[true, false, true, false, true, true, false, false]) rfl rfl (by rfl) (by rfl) (by kernel_rfl) (by rfl) (by rfl) (fun K hK => ?o6_1) (fun K hK => ?o6_5)
      case o6_1 =>
        
        go_simp
        go_at_call 36
        refine (TwinC_any v68 1 3 0 v68.heap.size (some ⟨v13.heap.size, 0, none⟩) 2 2 _ (descs_on De (later j21 j69)) (Nat.le_refl _) (by decide)).mono ?_
        rintro e' v71 ⟨A7, c7, rfl, hc7, j72, sz7, E7⟩
        clear E7 hc7
        have zv71 : v68.heap.size ≤ v71.heap.size := Below.size j72
        refine hK _ _ ⟨fun _ _ => fun p hp => Below.block (later j21 (later j69 j72)) p hp, ?_⟩
        clear hK K
        try simp only [Act.put, List.setIfInBounds_toArray, List.set_cons_zero, List.set_cons_succ]
        refine stepC2 (i := 3) (j := 5) (Li := #[true, true, true, true, true, false, false, false]) (Lj := #[true, true, true, false, true, true, false, false]) rfl rfl (by rfl) (by rfl) (by kernel_rfl) (by rfl) (by rfl) (fun K hK => ?o7_3) (fun K hK => ?o7_5)
        case o7_3 =>
          
          go_simp
          go_at_call 36
          refine (TwinC_any v71 1 3 0 v71.heap.size (some ⟨v13.heap.size, 0, none⟩) 2 2 _ (descs_on De (later j21 (later j69 j72))) (Nat.le_refl _) (by decide)).mono ?_
          rintro e' v73 ⟨A8, c8, rfl, hc8, j74, sz8, E8⟩
          clear E8 hc8
          have zv73 : v71.heap.size ≤ v73.heap.size := Below.size j74
          refine hK _ _ ⟨fun _ _ => fun p hp => Below.block (later j21 (later j69 (later j72 j74))) p hp, ?_⟩
          clear hK K
          try simp only [Act.put, List.setIfInBounds_toArray, List.set_cons_zero, List.set_cons_succ]
          refine stepC (i := 5) (L := #[true, true, true, true, true, true, false, false]) rfl (by rfl) (by kernel_rfl) (by rfl) (fun K hK => ?_)
          go_simp
          obtain ⟨v75, hc_, z8, j76, s77⟩ := alloc_cz v73
          rw [hc_]
          clear hc_
          have zv75 : v73.heap.size ≤ v75.heap.size := Below.size j76
          refine hK _ _ ⟨fun _ _ => fun p hp => Below.block (later j21 (later j69 (later j72 (later j74 j76)))) p hp, ?_⟩
          clear hK K
          try simp only [Act.put, List.setIfInBounds_toArray, List.set_cons_zero, List.set_cons_succ]
          exact leafC ⟨A7, A8, c7, c8, v20.heap.size, v73.heap.size, rfl, by omega, by omega, by omega, (box_later z7 (later j72 (later j74 j76)) s70), z8, (later j21 (later j69 (later j72 (later j74 j76))))⟩
        case o7_5 =>
          
          go_simp
          obtain ⟨v78, hc_, z8, j79, s80⟩ := alloc_cz v71
          rw [hc_]
          clear hc_
          have zv78 : v71.heap.size ≤ v78.heap.size := Below.size j79
          refine hK _ _ ⟨fun _ _ => fun p hp => Below.block (later j21 (later j69 (later j72 j79))) p hp, ?_⟩
          clear hK K
          try simp only [Act.put, List.setIfInBounds_toArray, List.set_cons_zero, List.set_cons_succ]
          refine stepC (i := 3) (L := #[true, true, true, true, true, true, false, false]) rfl (by rfl) (by kernel_rfl) (by rfl) (fun K hK => ?_)
          go_simp
          go_at_call 36
          refine (TwinC_any v78 1 3 0 v78.heap.size (some ⟨v13.heap.size, 0, none⟩) 2 2 _ (descs_on De (later j21 (later j69 (later j72 j79)))) (Nat.le_refl _) (by decide)).mono ?_
          rintro e' v81 ⟨A8, c8, rfl, hc8, j82, sz8, E8⟩
          clear E8 hc8
          have zv81 : v78.heap.size ≤ v81.heap.size := Below.size j82
          refine hK _ _ ⟨fun _ _ => fun p hp => Below.block (later j21 (later j69 (later j72 (later j79 j82)))) p hp, ?_⟩
          clear hK K
          try simp only [Act.put, List.setIfInBounds_toArray, List.set_cons_zero, List.set_cons_succ]
          exact leafC ⟨A7, A8, c7, c8, v20.heap.size, v71.heap.size, rfl, by omega, by omega, by omega, (box_later z7 (later j72 (later j79 j82)) s70), (box_later z8 j82 s80), (later j21 (later j69 (later j72 (later j79 j82))))⟩
      case o6_5 =>
        
        go_simp
        obtain ⟨v83, hc_, z8, j84, s85⟩ := alloc_cz v68
        rw [hc_]
        clear hc_
        have zv83 : v68.heap.size ≤ v83.heap.size := Below.size j84
        refine hK _ _ ⟨fun _ _ => fun p hp => Below.block (later j21 (later j69 j84)) p hp, ?_⟩
        clear hK K
        try simp only [Act.put, List.setIfInBounds_toArray, List.set_cons_zero, List.set_cons_succ]
        refine stepC (i := 1) (L := #[true, true, true, false, true, true, false, false]) rfl (by rfl) (by kernel_rfl) (by rfl) (fun K hK => ?_)
        go_simp
        go_at_call 36
        refine (TwinC_any v83 1 3 0 v83.heap.size (some ⟨v13.heap.size, 0, none⟩) 2 2 _ (descs_on De (later j21 (later j69 j84))) (Nat.le_refl _) (by decide)).mono ?_
        rintro e' v86 ⟨A7, c7, rfl, hc7, j87, sz7, E7⟩
        clear E7 hc7
        have zv86 : v83.heap.size ≤ v86.heap.size := Below.size j87
        refine hK _ _ ⟨fun _ _ => fun p hp => Below.block (later j21 (later j69 (later j84 j87))) p hp, ?_⟩
        clear hK K
        try simp only [Act.put, List.setIfInBounds_toArray, List.set_cons_zero, List.set_cons_succ]
        refine stepC (i := 3) (L := #[true, true, true, true, true, true, false, false]) rfl (by rfl) (by kernel_rfl) (by rfl) (fun K hK => ?_)
        go_simp
        go_at_call 36
        refine (TwinC_any v86 1 3 0 v86.heap.size (some ⟨v13.heap.size, 0, none⟩) 2 2 _ (descs_on De (later j21 (later j69 (later j84 j87)))) (Nat.le_refl _) (by decide)).mono ?_
        rintro e' v88 ⟨A8, c8, rfl, hc8, j89, sz8, E8⟩
        clear E8 hc8
        have zv88 : v86.heap.size ≤ v88.heap.size := Below.size j89
        refine hK _ _ ⟨fun _ _ => fun p hp => Below.block (later j21 (later j69 (later j84 (later j87 j89)))) p hp, ?_⟩
        clear hK K
        try simp only [Act.put, List.setIfInBounds_toArray, List.set_cons_zero, List.set_cons_succ]
        exact leafC ⟨A7, A8, c7, c8, v20.heap.size, v68.heap.size, rfl, by omega, by omega, by omega, (box_later z7 (later j84 (later j87 j89)) s70), (box_later z8 (later j87 j89) s85), (later j21 (later j69 (later j84 (later j87 j89))))⟩
    case o1_5 =>
      
      go_simp
      obtain ⟨v90, hc_, z8, j91, s92⟩ := alloc_cz v20
      rw [hc_]
      clear hc_
      have zv90 : v20.heap.size ≤ v90.heap.size := Below.size j91
      refine hK _ _ ⟨fun _ _ => fun p hp => Below.block (later j21 j91) p hp, ?_⟩
      clear hK K
      try simp only [Act.put, List.setIfInBounds_toArray, List.set_cons_zero, List.set_cons_succ]
      refine stepC2 (i := 1) (j := 4) (Li := #[true, true, true, false, false, true, false, false]) (Lj := #[true, false, true, false, true, true, false, false]) rfl rfl (by rfl) (by rfl) (by kernel_rfl) (by rfl) (by rfl) (fun K hK => ?o8_1) (fun K hK => ?o8_4)
      case o8_1 =>
        
        go_simp
        go_at_call 36
        refine (TwinC_any v90 1 3 0 v90.heap.size (some ⟨v13.heap.size, 0, none⟩) 2 2 _ (descs_on De (later j21 j91)) (Nat.le_refl _) (by decide)).mono ?_
        rintro e' v93 ⟨A7, c7, rfl, hc7, j94, sz7, E7⟩
        clear E7 hc7
        have zv93 : v90.heap.size ≤ v93.heap.size := Below.size j94
        refine hK _ _ ⟨fun _ _ => fun p hp => Below.block (later j21 (later j91 j94)) p hp, ?_⟩
        clear hK K
        try simp only [Act.put, List.setIfInBounds_toArray, List.set_cons_zero, List.set_cons_succ]
        refine stepC2 (i := 3) (j := 4) (Li := #[true, true, true, true, false, true, false, false]) (Lj := #[true, true, true, false, true, true, false, false]) rfl rfl (by rfl) (by rfl) (by kernel_rfl) (by rfl) (by rfl) (fun K hK => ?o9_3) (fun K hK => ?o9_4)
        case o9_3 =>
          
          go_simp
          go_at_call 36
          refine (TwinC_any v93 1 3 0 v93.heap.size (some ⟨v13.heap.size, 0, none⟩) 2 2 _ (descs_on De (later j21 (later j91 j94))) (Nat.le_refl _) (by decide)).mono ?_
          rintro e' v95 ⟨A8, c8, rfl, hc8, j96, sz8, E8⟩
          clear E8 hc8
          have zv95 : v93.heap.size ≤ v95.heap.size := Below.size j96
          refine hK _ _ ⟨fun _ _ => fun p hp => Below.block (later j21 (later j91 (later j94 j96))) p hp, ?_⟩
          clear hK K
          try simp only [Act.put, List.setIfInBounds_toArray, List.set_cons_zero, List.set_cons_succ]
          refine stepC (i := 4) (L := #[true, true, true, true, true, true, false, false]) rfl (by rfl) (by kernel_rfl) (by rfl) (fun K hK => ?_)
          go_simp
          obtain ⟨v97, hc_, z7, j98, s99⟩ := alloc_cz v95
          rw [hc_]
          clear hc_
          have zv97 : v95.heap.size ≤ v97.heap.size := Below.size j98
          refine hK _ _ ⟨fun _ _ => fun p hp => Below.block (later j21 (later j91 (later j94 (later j96 j98)))) p hp, ?_⟩
          clear hK K
          try simp only [Act.put, List.setIfInBounds_toArray, List.set_cons_zero, List.set_cons_succ]
          exact leafC ⟨A7, A8, c7, c8, v95.heap.size, v20.heap.size, rfl, by omega, by omega, by omega, z7, (box_later z8 (later j94 (later j96 j98)) s92), (later j21 (later j91 (later j94 (later j96 j98))))⟩
        case o9_4 =>
          
          go_simp
          obtain ⟨v100, hc_, z7, j101, s102⟩ := alloc_cz v93
          rw [hc_]
          clear hc_
          have zv100 : v93.heap.size ≤ v100.heap.size := Below.size j101
          refine hK _ _ ⟨fun _ _ => fun p hp => Below.block (later j21 (later j91 (later j94 j101))) p hp, ?_⟩
          clear hK K
          try simp only [Act.put, List.setIfInBounds_toArray, List.set_cons_zero, List.set_cons_succ]
          refine stepC (i := 3) (L := #[true, true, true, true, true, true, false, false]) rfl (by rfl) (by kernel_rfl) (by rfl) (fun K hK => ?_)
          go_simp
          go_at_call 36
          refine (TwinC_any v100 1 3 0 v100.heap.size (some ⟨v13.heap.size, 0, none⟩) 2 2 _ (descs_on De (later j21 (later j91 (later j94 j101)))) (Nat.le_refl _) (by decide)).mono ?_
          rintro e' v103 ⟨A8, c8, rfl, hc8, j104, sz8, E8⟩
          clear E8 hc8
          have zv103 : v100.heap.size ≤ v103.heap.size := Below.size j104
          refine hK _ _ ⟨fun _ _ => fun p hp => Below.block (later j21 (later j91 (later j94 (later j101 j104)))) p hp, ?_⟩
          clear hK K
          try simp only [Act.put, List.setIfInBounds_toArray, List.set_cons_zero, List.set_cons_succ]
          exact leafC ⟨A7, A8, c7, c8, v93.heap.size, v20.heap.size, rfl, by omega, by omega, by omega, (box_later z7 j104 s102), (box_later z8 (later j94 (later j101 j104)) s92), (later j21 (later j91 (later j94 (later j101 j104))))⟩
      case o8_4 =>
        
        go_simp
        obtain ⟨v105, hc_, z7, j106, s107⟩ := alloc_cz v90
        rw [hc_]
        clear hc_
        have zv105 : v90.heap.size ≤ v105.heap.size := Below.size j106
        refine hK _ _ ⟨fun _ _ => fun p hp => Below.block (later j21 (later j91 j106)) p hp, ?_⟩
        clear hK K
        try simp only [Act.put, List.setIfInBounds_toArray, List.set_cons_zero, List.set_cons_succ]
        refine stepC (i := 1) (L := #[true, true, true, false, true, true, false, false]) rfl (by rfl) (by kernel_rfl) (by rfl) (fun K hK => ?_)
        go_simp
        go_at_call 36
        refine (TwinC_any v105 1 3 0 v105.heap.size (some ⟨v13.heap.size, 0, none⟩) 2 2 _ (descs_on De (later j21 (later j91 j106))) (Nat.le_refl _) (by decide)).mono ?_
        rintro e' v108 ⟨A7, c7, rfl, hc7, j109, sz7, E7⟩
        clear E7 hc7
        have zv108 : v105.heap.size ≤ v108.heap.size := Below.size j109
        refine hK _ _ ⟨fun _ _ => fun p hp => Below.block (later j21 (later j91 (later j106 j109))) p hp, ?_⟩
        clear hK K
        try simp only [Act.put, List.setIfInBounds_toArray, List.set_cons_zero, List.set_cons_succ]
        refine stepC (i := 3) (L := #[true, true, true, true, true, true, false, false]) rfl (by rfl) (by kernel_rfl) (by rfl) (fun K hK => ?_)
        go_simp
        go_at_call 36
        refine (TwinC_any v108 1 3 0 v108.heap.size (some ⟨v13.heap.size, 0, none⟩) 2 2 _ (descs_on De (later j21 (later j91 (later j106 j109)))) (Nat.le_refl _) (by decide)).mono ?_
        rintro e' v110 ⟨A8, c8, rfl, hc8, j111, sz8, E8⟩
        clear E8 hc8
        have zv110 : v108.heap.size ≤ v110.heap.size := Below.size j111
        refine hK _ _ ⟨fun _ _ => fun p hp => Below.block (later j21 (later j91 (later j106 (later j109 j111)))) p hp, ?_⟩
        clear hK K
        try simp only [Act.put, List.setIfInBounds_toArray, List.set_cons_zero, List.set_cons_succ]
        exact leafC ⟨A7, A8, c7, c8, v90.heap.size, v20.heap.size, rfl, by omega, by omega, by omega, (box_later z7 (later j109 j111) s107), (box_later z8 (later j106 (later j109 j111)) s92), (later j21 (later j91 (later j106 (later j109 j111))))⟩
  case leaf =>
    rintro a' w' ⟨A7, A8, c7, c8, g7, g8, rfl, l7, l8, hne, z7, z8, bw⟩
    try simp only [Act.put, List.setIfInBounds_toArray, List.set_cons_zero, List.set_cons_succ]
    have lt7 := lt_of_heapC z7
    have lt8 := lt_of_heapC z8
    
    have kp_ : Keeps u19 w' := fun p hp => Below.block bw p hp
    obtain ⟨U7, hc_, y7, hb7, hf7, r7, r7'⟩ := cache_into z7 1 3 A7 2 c7
    refine stepK (i := 6) (L := #[true, true, true, true, true, true, true, false]) rfl (by rfl) (by kernel_rfl) (by rfl) (fun K hK => ?_)
    refine wp_store_mid 43 (.tmp 7) (.tmp 33) rfl g7 0 #[.int .i64 1, .int .i64 3, .slice A7 2 c7] rfl rfl z7.there (by kernel_rfl) (all_oneCell_toArray (one3 1 3 A7 2 c7)) ?_
    rw [show w'.setCells g7 0 (#[.int .i64 1, .int .i64 3, .slice A7 2 c7] : Array Value).toList = U7 from hc_]
    clear hc_
    replace kp_ : Keeps u19 U7 := fun p hp => (hf7 p (by omega)).trans (kp_ p hp)
    refine hK _ _ ⟨fun _ _ => kp_, ?_⟩
    clear hK K
    try simp only [Act.put, List.setIfInBounds_toArray, List.set_cons_zero, List.set_cons_succ]
    have z8' : CBox U7 g8 0 0 none 0 0 := (hf7 _ (by omega)).trans z8
    obtain ⟨U8, hc_, y8, hb8, hf8, r8, r8'⟩ := cache_into z8' 1 3 A8 2 c8
    refine stepK (i := 7) (L := #[true, true, true, true, true, true, true, true]) rfl (by rfl) (by kernel_rfl) (by rfl) (fun K hK => ?_)
    refine wp_store_mid 43 (.tmp 8) (.tmp 35) rfl g8 0 #[.int .i64 1, .int .i64 3, .slice A8 2 c8] rfl rfl z8'.there (by kernel_rfl) (all_oneCell_toArray (one3 1 3 A8 2 c8)) ?_
    rw [show U7.setCells g8 0 (#[.int .i64 1, .int .i64 3, .slice A8 2 c8] : Array Value).toList = U8 from hc_]
    clear hc_
    replace kp_ : Keeps u19 U8 := fun p hp => (hf8 p (by omega)).trans (kp_ p hp)
    refine hK _ _ ⟨fun _ _ => kp_, ?_⟩
    clear hK K kp_
    try simp only [Act.put, List.setIfInBounds_toArray, List.set_cons_zero, List.set_cons_succ]
    refine doneE (by kernel_rfl) ?_ _
    have jU := hb8 _ _ (hb7 _ _ bw l7) l8
    have X7 : CBox U8 g7 1 3 A7 2 c7 := (hf8 _ (by omega)).trans y7
    have X8 : CBox U8 g8 1 3 A8 2 c8 := y8
    have sU := jU.size
    have t7 : g7 < U8.heap.size := lt_of_heapC X7
    have t8 : g8 < U8.heap.size := lt_of_heapC X8
    clear hb7 hb8 hf7 hf8 z7 z8 z8' y7 y8 bw
    obtain ⟨⟨p0, p1, p2⟩, p3, p4, p5⟩ := cells3 X7
    obtain ⟨⟨q0, q1, q2⟩, q3, q4, q5⟩ := cells3 X8
    go_upto_region 8 with fail
    clear p0 p1 p2 p3 p4 p5 q0 q1 q2 q3 q4 q5
    have lb5 : v13.heap.size < u19.heap.size := by omega
    have df := descs_new U8 #[.int .i64 1, .int .i64 5] 29 1 [(1, 5)] rfl rfl (rng_of (by decide)) (by decide)
    obtain ⟨x112, h114⟩ : ∃ X, U8.alloc (.cells #[.int .i64 1, .int .i64 5] 29) = X := ⟨_, rfl⟩
    rw [h114] at df
    have j113 : Below U8.heap.size U8 x112 := by rw [← h114]; exact (Below.refl _ _).alloc (Nat.le_refl _) _
    have sf : U8.heap.size < x112.heap.size := by rw [← h114]; simp
    have bx_ : CBox x112 g7 1 3 A7 2 c7 := (box_later X7 j113 t7)
    obtain ⟨⟨p0, p1, p2⟩, p3, p4, p5⟩ := cells3 bx_
    obtain ⟨u115, hU, Bf, hb_, hf_, l1, l2⟩ := list_into bx_ (some ⟨U8.heap.size, 0, none⟩) 1 1
    go_upto_region 9 with fail
    try rw [h114]
    try rw [hU]
    try clear h114
    try clear hU
    clear p0 p1 p2 p3 p4 p5
    have finf := hb_ _ _ (fine.trans (Below.mono (later jU j113) (Below.size fine))) (by omega)
    have Df : Descs u115 0 u115.heap.size (some ⟨U8.heap.size, 0, none⟩) 1 [(1, 5)] := (descs_far df (by omega) hf_).more (Nat.zero_le _) (by omega)
    have Ef := descs_far df (g := g7) (by omega) hf_
    have Bef : CBox u115 v11.heap.size 1 3 (some ⟨v13.heap.size, 0, none⟩) 2 2 := (hf_ _ (by omega)).trans (box_later Be (later jU j113) lte)
    have X8f : CBox u115 g8 1 3 A8 2 c8 := (hf_ _ (by omega)).trans (box_later X8 j113 t8)
    have Eef : Descs u115 v13.heap.size (v13.heap.size + 1) (some ⟨v13.heap.size, 0, none⟩) 2 [(2, 5), (0, 5)] := descs_far (Descs.below Ee (later jU j113) (by omega)) (g := g7) (by omega) hf_
    have ltf := lt_of_heapC Bf
    have dh := descs_new u115 #[.int .i64 2, .int .i64 5, .int .i64 2, .int .i64 4] 29 2 [(2, 5), (2, 4)] rfl rfl (rng_of (by decide)) (by decide)
    obtain ⟨x116, h118⟩ : ∃ X, u115.alloc (.cells #[.int .i64 2, .int .i64 5, .int .i64 2, .int .i64 4] 29) = X := ⟨_, rfl⟩
    rw [h118] at dh
    have j117 : Below u115.heap.size u115 x116 := by rw [← h118]; exact (Below.refl _ _).alloc (Nat.le_refl _) _
    have sh : u115.heap.size < x116.heap.size := by rw [← h118]; simp
    have bx_ : CBox x116 g8 1 3 A8 2 c8 := (box_later X8f j117 (by omega))
    obtain ⟨⟨p0, p1, p2⟩, p3, p4, p5⟩ := cells3 bx_
    obtain ⟨u119, hU, Bh, hb_, hf_, l1, l2⟩ := list_into bx_ (some ⟨u115.heap.size, 0, none⟩) 2 2
    go_upto_region 10 with fail
    try rw [h118]
    try rw [hU]
    try clear h118
    try clear hU
    clear p0 p1 p2 p3 p4 p5
    have finh := hb_ _ _ (finf.trans (Below.mono j117 (Below.size finf))) (by omega)
    have Dh : Descs u119 0 u119.heap.size (some ⟨u115.heap.size, 0, none⟩) 2 [(2, 5), (2, 4)] := (descs_far dh (by omega) hf_).more (Nat.zero_le _) (by omega)
    have Eh := descs_far dh (g := g8) (by omega) hf_
    have Befh : CBox u119 v11.heap.size 1 3 (some ⟨v13.heap.size, 0, none⟩) 2 2 := (hf_ _ (by omega)).trans (box_later Bef j117 (by omega))
    have Bfh : CBox u119 g7 1 3 (some ⟨U8.heap.size, 0, none⟩) 1 1 := (hf_ _ (by omega)).trans (box_later Bf j117 ltf)
    have Eefh : Descs u119 v13.heap.size (v13.heap.size + 1) (some ⟨v13.heap.size, 0, none⟩) 2 [(2, 5), (0, 5)] := descs_far (Descs.below Eef j117 (by omega)) (g := g8) (by omega) hf_
    have Efh : Descs u119 (U8.heap.size) (U8.heap.size + 1) (some ⟨U8.heap.size, 0, none⟩) 1 [(1, 5)] := descs_far (Descs.below Ef j117 (by omega)) (g := g8) (by omega) hf_
    have lth := lt_of_heapC Bh
    have dc : Descs u119 0 u119.heap.size (some ⟨v13.heap.size, 0, none⟩) 2 [(2, 5), (0, 5)] := Eefh.more (Nat.zero_le _) (by omega)
    have df : Descs u119 0 u119.heap.size (some ⟨U8.heap.size, 0, none⟩) 1 [(1, 5)] := Efh.more (Nat.zero_le _) (by omega)
    have dk := descs_new u119 #[.int .i64 2, .int .i64 5] 29 1 [(2, 5)] rfl rfl (rng_of (by decide)) (by decide)
    obtain ⟨x120, h122⟩ : ∃ X, u119.alloc (.cells #[.int .i64 2, .int .i64 5] 29) = X := ⟨_, rfl⟩
    rw [h122] at dk
    have j121 : Below u119.heap.size u119 x120 := by rw [← h122]; exact (Below.refl _ _).alloc (Nat.le_refl _) _
    have sk : u119.heap.size < x120.heap.size := by rw [← h122]; simp
    have dk_ : Descs x120 0 x120.heap.size (some ⟨u119.heap.size, 0, none⟩) 1 [(2, 5)] := dk.more (Nat.zero_le _) (by omega)
    obtain ⟨u123, hU9⟩ : ∃ U, x120.alloc (.cells #[.int .i64 1, .int .i64 3, .slice (some ⟨u119.heap.size, 0, none⟩) 1 1] 43) = U := ⟨_, rfl⟩
    have b9 : CBox u123 x120.heap.size 1 3 (some ⟨u119.heap.size, 0, none⟩) 1 1 := by rw [← hU9]; exact heap_alloc_last _ _
    have j124 : Below x120.heap.size x120 u123 := by rw [← hU9]; exact (Below.refl _ _).alloc (Nat.le_refl _) _
    have s125 : x120.heap.size < u123.heap.size := by rw [← hU9]; simp
    go_upto_region 11 with fail
    try rw [h122]
    try rw [hU9]
    try clear h122
    try clear hU9
    obtain ⟨⟨p0, p1, p2⟩, p3, p4, p5⟩ := cells3 b9
    go_wp2_with fail
    refine (Offer_any u123 1 3 (-1) (some ⟨u119.heap.size, 0, none⟩) 1 1 _ (descs_on dk_ j124) 2 m5.out).mono ?_
    rintro e' v126 ⟨A10, n10, c10, r10, rfl, h1, j127, h2, h3, h4⟩
    try clear hw
    clear h1 h2 h3 h4
    clear p0 p1 p2 p3 p4 p5
    go_upto_region 12 with fail
    try clear hw
    refine region_E (Keeps v126) [] (m := 9) (L := #[false, false, false, false, false, false, false, false, false]) (by kernel_rfl) (by rfl) (by rfl) ?_
    have j129 : Below v126.heap.size v126 v126.drew := (Below.refl _ _).drew
    generalize v126.drew = v128 at *
    have kpy130 : Keeps v126 v128 := fun p hp => Below.block j129 p hp
    refine readE (i := 0) (L := #[true, false, false, false, false, false, false, false, false]) (v := .agg #[.int .i64 1, .int .i64 3, .slice (some ⟨u119.heap.size, 0, none⟩) 1 1]) rfl (by rfl) (by kernel_rfl) (by kernel_rfl) (by kernel_rfl) (fun _ _ _ h => h) (by assumption) (by rfl) ?y130 ?z131
    case y130 =>
      intro w' h1
      obtain ⟨⟨p0, p1, p2⟩, p3, p4, p5⟩ := cells3 ((h1 _ (Nat.lt_of_lt_of_le s125 (Below.size j127))).trans (box_later b9 j127 s125))
      go_simp
    try simp only [Act.put, List.setIfInBounds_toArray, List.set_cons_zero, List.set_cons_succ]
    refine E_of_C (fun (A : Act) a' w' => ∃ (v63 v64 v61 : Value) (A12 : Option Addr) (n12 c12 g12 : Nat), a' = ((((((A.put (some 63) v63).put (some 64) v64).put (some 61) v61).put (some 65) (.agg #[.int .i64 0, .int .i64 0, .slice A12 n12 c12])).put (some 66) (.int .i64 4)).put (some 12) (.pointer (some ⟨g12, 0, none⟩))) ∧ v126.heap.size ≤ g12 ∧ CBox w' g12 0 0 none 0 0 ∧ Below v126.heap.size v126 w') #[true, true, true, true, true, true, true, false, false] 2 ?leaf ?tree
    case tree =>
      have zv128 : v126.heap.size ≤ v128.heap.size := Below.size j129
      
      refine stepC2 (i := 1) (j := 6) (Li := #[true, true, false, false, false, false, false, false, false]) (Lj := #[true, false, false, false, false, false, true, false, false]) rfl rfl (by rfl) (by rfl) (by kernel_rfl) (by rfl) (by rfl) (fun K hK => ?o10_1) (fun K hK => ?o10_6)
      case o10_1 =>
        
        go_simp
        obtain ⟨v132, hmk, dz, j133⟩ := make_descs v128
        simp only [hmk]
        go_simp
        clear hmk
        have zv132 : v128.heap.size ≤ v132.heap.size := Below.size j133
        refine hK _ _ ⟨fun _ _ => fun p hp => Below.block (later j129 j133) p hp, ?_⟩
        clear hK K
        try simp only [Act.put, List.setIfInBounds_toArray, List.set_cons_zero, List.set_cons_succ]
        refine stepC2 (i := 2) (j := 6) (Li := #[true, true, true, false, false, false, false, false, false]) (Lj := #[true, true, false, false, false, false, true, false, false]) rfl rfl (by rfl) (by rfl) (by kernel_rfl) (by rfl) (by rfl) (fun K hK => ?o11_2) (fun K hK => ?o11_6)
        case o11_2 =>
          
          go_simp
          go_at_call 31
          have hM := MergeC_any v132 1 3 (some ⟨u119.heap.size, 0, none⟩) 1 1 _ (descs_on dk_ (later j124 (later j127 (later j129 j133)))) (some ⟨v128.heap.size, 0, none⟩) 64 64 _ dz 4 m6.out
          rw [o6.out, p6.out] at hM
          refine hM.mono ?_
          rintro e' v134 ⟨A12, n12, c12, r12, rfl, h1, j135, h2, h3, h4⟩
          clear h1 h2 h3 h4 hM
          have zv134 : v132.heap.size ≤ v134.heap.size := Below.size j135
          refine hK _ _ ⟨fun _ _ => fun p hp => Below.block (later j129 (later j133 j135)) p hp, ?_⟩
          clear hK K
          try simp only [Act.put, List.setIfInBounds_toArray, List.set_cons_zero, List.set_cons_succ]
          refine pureC (i := 3) (L := #[true, true, true, true, false, false, false, false, false]) (v := ?_) rfl (by rfl) (by kernel_rfl) (by kernel_rfl) (by kernel_rfl) (fun _ _ _ h => h) (by rfl) ?hy20 ?rest20
          case hy20 => intro w; go_simp; (try with_reducible rfl)
          try simp only [Act.put, List.setIfInBounds_toArray, List.set_cons_zero, List.set_cons_succ]
          refine pureC (i := 4) (L := #[true, true, true, true, true, false, false, false, false]) (v := ?_) rfl (by rfl) (by kernel_rfl) (by kernel_rfl) (by kernel_rfl) (fun _ _ _ h => h) (by rfl) ?hy21 ?rest21
          case hy21 => intro w; go_simp; (try with_reducible rfl)
          try simp only [Act.put, List.setIfInBounds_toArray, List.set_cons_zero, List.set_cons_succ]
          refine pureC (i := 5) (L := #[true, true, true, true, true, true, false, false, false]) (v := ?_) rfl (by rfl) (by kernel_rfl) (by kernel_rfl) (by kernel_rfl) (fun _ _ _ h => h) (by rfl) ?hy22 ?rest22
          case hy22 => intro w; go_simp; (try with_reducible rfl)
          try simp only [Act.put, List.setIfInBounds_toArray, List.set_cons_zero, List.set_cons_succ]
          refine stepC (i := 6) (L := #[true, true, true, true, true, true, true, false, false]) rfl (by rfl) (by kernel_rfl) (by rfl) (fun K hK => ?_)
          go_simp
          obtain ⟨v136, hc_, zq, j137, s138⟩ := alloc_cz v134
          rw [hc_]
          clear hc_
          have zv136 : v134.heap.size ≤ v136.heap.size := Below.size j137
          refine hK _ _ ⟨fun _ _ => fun p hp => Below.block (later j129 (later j133 (later j135 j137))) p hp, ?_⟩
          clear hK K
          try simp only [Act.put, List.setIfInBounds_toArray, List.set_cons_zero, List.set_cons_succ]
          exact leafC ⟨_, _, _, A12, n12, c12, v134.heap.size, rfl, by omega, zq, (later j129 (later j133 (later j135 j137)))⟩
        case o11_6 =>
          
          go_simp
          obtain ⟨v139, hc_, zq, j140, s141⟩ := alloc_cz v132
          rw [hc_]
          clear hc_
          have zv139 : v132.heap.size ≤ v139.heap.size := Below.size j140
          refine hK _ _ ⟨fun _ _ => fun p hp => Below.block (later j129 (later j133 j140)) p hp, ?_⟩
          clear hK K
          try simp only [Act.put, List.setIfInBounds_toArray, List.set_cons_zero, List.set_cons_succ]
          refine stepC (i := 2) (L := #[true, true, true, false, false, false, true, false, false]) rfl (by rfl) (by kernel_rfl) (by rfl) (fun K hK => ?_)
          go_simp
          go_at_call 31
          have hM := MergeC_any v139 1 3 (some ⟨u119.heap.size, 0, none⟩) 1 1 _ (descs_on dk_ (later j124 (later j127 (later j129 (later j133 j140))))) (some ⟨v128.heap.size, 0, none⟩) 64 64 _ (descs_on dz j140) 4 m6.out
          rw [o6.out, p6.out] at hM
          refine hM.mono ?_
          rintro e' v142 ⟨A12, n12, c12, r12, rfl, h1, j143, h2, h3, h4⟩
          clear h1 h2 h3 h4 hM
          have zv142 : v139.heap.size ≤ v142.heap.size := Below.size j143
          refine hK _ _ ⟨fun _ _ => fun p hp => Below.block (later j129 (later j133 (later j140 j143))) p hp, ?_⟩
          clear hK K
          try simp only [Act.put, List.setIfInBounds_toArray, List.set_cons_zero, List.set_cons_succ]
          refine pureC (i := 3) (L := #[true, true, true, true, false, false, true, false, false]) (v := ?_) rfl (by rfl) (by kernel_rfl) (by kernel_rfl) (by kernel_rfl) (fun _ _ _ h => h) (by rfl) ?hy25 ?rest25
          case hy25 => intro w; go_simp; (try with_reducible rfl)
          try simp only [Act.put, List.setIfInBounds_toArray, List.set_cons_zero, List.set_cons_succ]
          refine pureC (i := 4) (L := #[true, true, true, true, true, false, true, false, false]) (v := ?_) rfl (by rfl) (by kernel_rfl) (by kernel_rfl) (by kernel_rfl) (fun _ _ _ h => h) (by rfl) ?hy26 ?rest26
          case hy26 => intro w; go_simp; (try with_reducible rfl)
          try simp only [Act.put, List.setIfInBounds_toArray, List.set_cons_zero, List.set_cons_succ]
          refine pureC (i := 5) (L := #[true, true, true, true, true, true, true, false, false]) (v := ?_) rfl (by rfl) (by kernel_rfl) (by kernel_rfl) (by kernel_rfl) (fun _ _ _ h => h) (by rfl) ?hy27 ?rest27
          case hy27 => intro w; go_simp; (try with_reducible rfl)
          try simp only [Act.put, List.setIfInBounds_toArray, List.set_cons_zero, List.set_cons_succ]
          exact leafC ⟨_, _, _, A12, n12, c12, v132.heap.size, rfl, by omega, (box_later zq j143 s141), (later j129 (later j133 (later j140 j143)))⟩
      case o10_6 =>
        
        go_simp
        obtain ⟨v144, hc_, zq, j145, s146⟩ := alloc_cz v128
        rw [hc_]
        clear hc_
        have zv144 : v128.heap.size ≤ v144.heap.size := Below.size j145
        refine hK _ _ ⟨fun _ _ => fun p hp => Below.block (later j129 j145) p hp, ?_⟩
        clear hK K
        try simp only [Act.put, List.setIfInBounds_toArray, List.set_cons_zero, List.set_cons_succ]
        refine stepC (i := 1) (L := #[true, true, false, false, false, false, true, false, false]) rfl (by rfl) (by kernel_rfl) (by rfl) (fun K hK => ?_)
        go_simp
        obtain ⟨v147, hmk, dz, j148⟩ := make_descs v144
        simp only [hmk]
        go_simp
        clear hmk
        have zv147 : v144.heap.size ≤ v147.heap.size := Below.size j148
        refine hK _ _ ⟨fun _ _ => fun p hp => Below.block (later j129 (later j145 j148)) p hp, ?_⟩
        clear hK K
        try simp only [Act.put, List.setIfInBounds_toArray, List.set_cons_zero, List.set_cons_succ]
        refine stepC (i := 2) (L := #[true, true, true, false, false, false, true, false, false]) rfl (by rfl) (by kernel_rfl) (by rfl) (fun K hK => ?_)
        go_simp
        go_at_call 31
        have hM := MergeC_any v147 1 3 (some ⟨u119.heap.size, 0, none⟩) 1 1 _ (descs_on dk_ (later j124 (later j127 (later j129 (later j145 j148))))) (some ⟨v144.heap.size, 0, none⟩) 64 64 _ dz 4 m6.out
        rw [o6.out, p6.out] at hM
        refine hM.mono ?_
        rintro e' v149 ⟨A12, n12, c12, r12, rfl, h1, j150, h2, h3, h4⟩
        clear h1 h2 h3 h4 hM
        have zv149 : v147.heap.size ≤ v149.heap.size := Below.size j150
        refine hK _ _ ⟨fun _ _ => fun p hp => Below.block (later j129 (later j145 (later j148 j150))) p hp, ?_⟩
        clear hK K
        try simp only [Act.put, List.setIfInBounds_toArray, List.set_cons_zero, List.set_cons_succ]
        refine pureC (i := 3) (L := #[true, true, true, true, false, false, true, false, false]) (v := ?_) rfl (by rfl) (by kernel_rfl) (by kernel_rfl) (by kernel_rfl) (fun _ _ _ h => h) (by rfl) ?hy30 ?rest30
        case hy30 => intro w; go_simp; (try with_reducible rfl)
        try simp only [Act.put, List.setIfInBounds_toArray, List.set_cons_zero, List.set_cons_succ]
        refine pureC (i := 4) (L := #[true, true, true, true, true, false, true, false, false]) (v := ?_) rfl (by rfl) (by kernel_rfl) (by kernel_rfl) (by kernel_rfl) (fun _ _ _ h => h) (by rfl) ?hy31 ?rest31
        case hy31 => intro w; go_simp; (try with_reducible rfl)
        try simp only [Act.put, List.setIfInBounds_toArray, List.set_cons_zero, List.set_cons_succ]
        refine pureC (i := 5) (L := #[true, true, true, true, true, true, true, false, false]) (v := ?_) rfl (by rfl) (by kernel_rfl) (by kernel_rfl) (by kernel_rfl) (fun _ _ _ h => h) (by rfl) ?hy32 ?rest32
        case hy32 => intro w; go_simp; (try with_reducible rfl)
        try simp only [Act.put, List.setIfInBounds_toArray, List.set_cons_zero, List.set_cons_succ]
        exact leafC ⟨_, _, _, A12, n12, c12, v128.heap.size, rfl, by omega, (box_later zq (later j148 j150) s146), (later j129 (later j145 (later j148 j150)))⟩
    case leaf =>
      rintro a' w' ⟨v63, v64, v61, A12, n12, c12, g12, rfl, l12, zq, bw⟩
      try simp only [Act.put, List.setIfInBounds_toArray, List.set_cons_zero, List.set_cons_succ]
      have lt12 := lt_of_heapC zq
      
      have kp_ : Keeps v126 w' := fun p hp => Below.block bw p hp
      obtain ⟨U12, hc_, y12, hb12, hf12, r1, r2⟩ := cache_into zq 0 0 A12 n12 c12
      refine stepK (i := 7) (L := #[true, true, true, true, true, true, true, true, false]) rfl (by rfl) (by kernel_rfl) (by rfl) (fun K hK => ?_)
      refine wp_store_mid 43 (.tmp 12) (.tmp 65) rfl g12 0 #[.int .i64 0, .int .i64 0, .slice A12 n12 c12] rfl rfl zq.there (by kernel_rfl) (all_oneCell_toArray (one3 0 0 A12 n12 c12)) ?_
      rw [show w'.setCells g12 0 (#[.int .i64 0, .int .i64 0, .slice A12 n12 c12] : Array Value).toList = U12 from hc_]
      clear hc_
      replace kp_ : Keeps v126 U12 := fun p hp => (hf12 p (by omega)).trans (kp_ p hp)
      refine hK _ _ ⟨fun _ _ => kp_, ?_⟩
      clear hK K kp_
      try simp only [Act.put, List.setIfInBounds_toArray, List.set_cons_zero, List.set_cons_succ]
      refine pureE (i := 8) (L := #[true, true, true, true, true, true, true, true, true]) (v := ?_) rfl (by rfl) (by kernel_rfl) (by kernel_rfl) (by kernel_rfl) (fun _ _ _ h => h) (by rfl) ?hy34 ?rest34
      case hy34 => intro w; go_simp; (try with_reducible rfl)
      try simp only [Act.put, List.setIfInBounds_toArray, List.set_cons_zero, List.set_cons_succ]
      refine doneE (by kernel_rfl) ?_ _
      have j12 := hb12 _ _ bw l12
      clear hb12 hf12 zq y12 bw
      have dn := descs_new U12 #[.int .i64 9, .int .i64 0] 29 1 [(9, 0)] rfl rfl (rng_of (by decide)) (by decide)
      obtain ⟨x151, h153⟩ : ∃ X, U12.alloc (.cells #[.int .i64 9, .int .i64 0] 29) = X := ⟨_, rfl⟩
      rw [h153] at dn
      have j152 : Below U12.heap.size U12 x151 := by rw [← h153]; exact (Below.refl _ _).alloc (Nat.le_refl _) _
      have sn : U12.heap.size < x151.heap.size := by rw [← h153]; simp
      have dn_ : Descs x151 0 x151.heap.size (some ⟨U12.heap.size, 0, none⟩) 1 [(9, 0)] := dn.more (Nat.zero_le _) (by omega)
      obtain ⟨⟨p0, p1, p2⟩, p3, p4, p5⟩ := cells3 (box_later b9 (later j127 j12) s125)
      have hM := MergeC_any x151 1 3 (some ⟨u119.heap.size, 0, none⟩) 1 1 _ (descs_on dk_ (later j124 (later j127 (later j12 j152)))) (some ⟨U12.heap.size, 0, none⟩) 1 1 _ dn_ 8 m7.out
      rw [o7.out, p7.out] at hM
      go_wp2_with fail
      refine (hM).mono ?_
      rintro e' v154 ⟨A14, n14, c14, r14, rfl, h1, j155, h2, h3, h4⟩
      try clear hw
      clear h1 h2 h3 h4 hM
      try clear h153
      clear p0 p1 p2 p3 p4 p5
      have j157 := (Below.refl v154.heap.size v154).alloc (Nat.le_refl _) (.cells #[.int .i64 0, .int .i64 0, .slice A14 n14 c14] 43)
      have b14 := heap_alloc_last v154 (.cells #[.int .i64 0, .int .i64 0, .slice A14 n14 c14] 43)
      have s158 : v154.heap.size < (v154.alloc (.cells #[.int .i64 0, .int .i64 0, .slice A14 n14 c14] 43)).heap.size := by simp
      go_wp2_with fail
      generalize hw : v154.alloc (.cells #[.int .i64 0, .int .i64 0, .slice A14 n14 c14] 43) = v156 at *
      clear hw
      refine ((aliveC_p v156).mono (fun _ _ h => And.intro h.1 h.2.1)).mono ?_
      rintro e' v159 ⟨rfl, j160⟩
      try clear hw
      obtain ⟨⟨p0, p1, p2⟩, p3, p4, p5⟩ := cells3 (box_later Befh (later j121 (later j124 (later j127 (later j12 (later j152 (later j155 (later j157 j160))))))) (by omega))
      go_wp2_with fail
      refine ((CheckC_any v159 1 3 (some ⟨v13.heap.size, 0, none⟩) 2 2 _ (descs_on dc (later j121 (later j124 (later j127 (later j12 (later j152 (later j155 (later j157 j160)))))))) 8 m1.out).mono (fun _ _ h => And.intro h.1 h.2.1)).mono ?_
      rintro e' v161 ⟨rfl, j162⟩
      try clear hw
      clear p0 p1 p2 p3 p4 p5
      obtain ⟨⟨p0, p1, p2⟩, p3, p4, p5⟩ := cells3 (box_later Bfh (later j121 (later j124 (later j127 (later j12 (later j152 (later j155 (later j157 (later j160 j162)))))))) (by omega))
      go_wp2_with fail
      refine ((CheckC_any v161 1 3 (some ⟨U8.heap.size, 0, none⟩) 1 1 _ (descs_on df (later j121 (later j124 (later j127 (later j12 (later j152 (later j155 (later j157 (later j160 j162))))))))) 8 m2.out).mono (fun _ _ h => And.intro h.1 h.2.1)).mono ?_
      rintro e' v163 ⟨rfl, j164⟩
      try clear hw
      clear p0 p1 p2 p3 p4 p5
      obtain ⟨⟨p0, p1, p2⟩, p3, p4, p5⟩ := cells3 (box_later Bh (later j121 (later j124 (later j127 (later j12 (later j152 (later j155 (later j157 (later j160 (later j162 j164))))))))) lth)
      go_wp2_with fail
      refine ((CheckC_any v163 1 3 (some ⟨u115.heap.size, 0, none⟩) 2 2 _ (descs_on Dh (later j121 (later j124 (later j127 (later j12 (later j152 (later j155 (later j157 (later j160 (later j162 j164)))))))))) 8 m3.out).mono (fun _ _ h => And.intro h.1 h.2.1)).mono ?_
      rintro e' v165 ⟨rfl, j166⟩
      try clear hw
      clear p0 p1 p2 p3 p4 p5
      obtain ⟨⟨p0, p1, p2⟩, p3, p4, p5⟩ := cells3 (box_later b9 (later j127 (later j12 (later j152 (later j155 (later j157 (later j160 (later j162 (later j164 j166)))))))) s125)
      go_wp2_with fail
      refine ((CheckC_any v165 1 3 (some ⟨u119.heap.size, 0, none⟩) 1 1 _ (descs_on dk_ (later j124 (later j127 (later j12 (later j152 (later j155 (later j157 (later j160 (later j162 (later j164 j166)))))))))) 0 m4.out).mono (fun _ _ h => And.intro h.1 h.2.1)).mono ?_
      rintro e' v167 ⟨rfl, j168⟩
      try clear hw
      clear p0 p1 p2 p3 p4 p5
      go_wp2
      go_ret
      exact ⟨rfl, finh.trans (Below.mono (later j121 (later j124 (later j127 (later j12 (later j152 (later j155 (later j157 (later j160 (later j162 (later j164 (later j166 j168))))))))))) (Below.size finh))⟩
end De
end Go.Proofs.Ytpjomdkcckamkaa
