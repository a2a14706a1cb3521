/- CacheOnce: the walk. -/
import Derived.Test.YtpjomdkcckamkaaCaOffers
import Derived.Test.YtpjomdkcckamkaaRegionE
import Derived.Deep.RegionHeld3
import Derived.Deep.WholeRow
import Derived.Deep.DeepCutAuto
namespace Go.Proofs.Ytpjomdkcckamkaa
open Go.RowKit Go.Sort Go.Shelf
namespace De
/-- A cache in a block of its own. -/
structure Cch (w : World) (hi g : Nat) (o p : Int) (A : Option Addr) (n c : Nat) (xs : List (Int × Int)) : Prop where
  blk : w.heap[g]? = some (.cells #[.int .i64 o, .int .i64 p, .slice A n c] 43 (0, 0))
  mem : Descs w 0 hi A n xs
  lt : g < hi
theorem Cch.below {w w' : World} {hi g B : Nat} {o p : Int} {A : Option Addr} {n c : Nat} {xs : List (Int × Int)} (h : Cch w hi g o p A n c xs) (hb : Below B w w') (hB : hi ≤ B) : Cch w' hi g o p A n c xs :=
  ⟨Below.heapOf hb (Nat.lt_of_lt_of_le h.lt hB) h.blk, h.mem.below hb hB, h.lt⟩
theorem Cch.alloc {w : World} {hi g : Nat} {o p : Int} {A : Option Addr} {n c : Nat} {xs : List (Int × Int)} (h : Cch w hi g o p A n c xs) (hB : hi ≤ w.heap.size) (b : Obj) : Cch (w.alloc b) hi g o p A n c xs :=
  h.below ((Below.refl w.heap.size w).alloc (Nat.le_refl _) b) hB
theorem Cch.new {w : World} {lo hi c : Nat} {A : Option Addr} {n : Nat} {xs : List (Int × Int)} (Z : Descs w lo hi A n xs) (hhi : hi ≤ w.heap.size) (o p : Int) : Cch (w.alloc (.cells #[.int .i64 o, .int .i64 p, .slice A n c] 43)) (w.heap.size + 1) w.heap.size o p A n c xs :=
  ⟨heap_newg _ _ _ rfl, (Z.alloc hhi _).more (Nat.zero_le _) (by omega), Nat.lt_succ_self _⟩
theorem Cch.cells {w : World} {hi g : Nat} {o p : Int} {A : Option Addr} {n c : Nat} {xs : List (Int × Int)} (h : Cch w hi g o p A n c xs) : w.cell? ⟨g, 0, none⟩ = some (.int .i64 o) ∧ w.cell? ⟨g, 1, none⟩ = some (.int .i64 p) ∧ w.cell? ⟨g, 2, none⟩ = some (.slice A n c) := (cells3 h.blk).1
theorem keepZ {W u : World} {base g n : Nat} {e t : TypeId} {size : Nat} {v : Value} {xs : List Value} {cs : Array Value} (hgr : W.grownBy u v.ownBlock) (hown : W.ownsRow base e size v n xs) (hne : e ≠ t) (hG : W.heap[g]? = some (.cells cs t (0, 0))) : u.heap[g]? = some (.cells cs t (0, 0)) := by
  refine (hgr.block g (Array.getElem?_eq_some_iff.1 hG).1 fun e1 => ?_).trans hG
  rcases hown.2 with ⟨rfl, _⟩ | ⟨gb, cap, cur, rfl, _, hb, _⟩
  · simp [Value.ownBlock] at e1
  · simp [Value.ownBlock] at e1
    subst e1
    rw [hb] at hG
    injection hG with h
    injection h with _ h
    exact hne h
theorem keepB {W u : World} {g : Nat} {x : Obj} (hb : Below W.heap.size W u) (hG : W.heap[g]? = some x) : u.heap[g]? = some x := Below.heapOf hb (Array.getElem?_eq_some_iff.1 hG).1 hG
theorem own_drewO {w : World} {base n size : Nat} {e : TypeId} {v : Value} {xs : List Value} (h : w.ownsRow base e size v n xs) : w.drew.ownsRow base e size v n xs := h
theorem heap_drewO {w : World} {g : Nat} {x : Obj} (h : w.heap[g]? = some x) : w.drew.heap[g]? = some x := h
theorem size_drewO (w : World) : w.drew.heap.size = w.heap.size := rfl
theorem put3 {w : World} {g : Nat} {x y z : Value} {t : TypeId} (h : w.heap[g]? = some (.cells #[x, y, z] t (0, 0))) (a b c : Value) : (((w.setCell ⟨g, 0, none⟩ a).setCell ⟨g, 1, none⟩ b).setCell ⟨g, 2, none⟩ c).heap[g]? = some (.cells #[a, b, c] t (0, 0)) := by
  simp [World.setCell, Array.getElem?_modify, h]
theorem far3 {w : World} {g r n : Nat} {A : Option Addr} {xs : List (Int × Int)} (h : Descs w r (r + 1) A n xs) (hg : 0 < n → g < r ∨ r + 1 ≤ g) (a b c : Value) : Descs (((w.setCell ⟨g, 0, none⟩ a).setCell ⟨g, 1, none⟩ b).setCell ⟨g, 2, none⟩ c) r (r + 1) A n xs := by
  rcases Nat.eq_zero_or_pos n with h0 | h0
  · subst h0
    rw [h.zero rfl]
    exact Descs.nil_ ..
  · exact ((h.far (p := ⟨g, 0, none⟩) (hg h0) a).far (p := ⟨g, 1, none⟩) (hg h0) b).far (p := ⟨g, 2, none⟩) (hg h0) c
def KeepsC (W w : World) : Prop := ∀ p, p < W.heap.size → w.heap[p]? = W.heap[p]?
theorem wp_append_rawC {P : Program} {o : Oper} {a : Act} {w : World} {K : Act → World → Prop} {Q : Exit → Act → World → Prop} (s x : Operand) (t : TypeId)
    (ho : o.op = .call { callee := .builtin .append, args := #[s, x], argTypes := #[t, t] })
    (base : Nat) (e : TypeId) (i : TypeInfo) (z : Value) (size bytes : Nat) (ht : P.underlying t = some (.slice e)) (hi : P.info? e = some i) (hz : i.zero = some z)
    (hsize : i.size = size) (hby : i.bytes = bytes) (hzs : z.cells.size = size) (hsz : 0 < size)
    (v : Value) (n : Nat) (xs : List Value) (hs : a.eval s = v) (hown : w.ownsRow base e size v n xs)
    (lo hi' : Nat) (A : Option Addr) (m c : Nat) (news : List Value) (hx : a.eval x = .slice A m c) (hr : Raw w lo hi' A (m * size) news) (h1 : ∀ u ∈ news, u.oneCell' = true)
    (h63 : n + m ≤ maxLen) (hbytes : (n + m) * bytes ≤ 140737488355328) (hbase : base ≤ w.heap.size)
    (h : ∀ A' c' w', w'.ownsRow base e size (.slice A' (n + m) c') (n + m) (xs ++ news) → w.grownBy w' v.ownBlock → ((Value.slice A' (n + m) c').ownBlock = v.ownBlock ∨ (Value.slice A' (n + m) c').ownBlock = some w.heap.size) →
      K (a.put o.dst (.slice A' (n + m) c')) w') : Oper.wp P o a w K Q := by
  obtain ⟨A', c', w', hr, h2, h3, h5⟩ := run_append_raw (P := P) w base t o.type e i z size bytes ht hi hz hsize hby hzs hsz v n xs hown lo hi' A m c news hr h1 h63 hbytes hbase
  unfold Oper.wp execOp
  simp only [ho, resolve, invoke, builtin, Sem.run_bind, Sem.run_pure, Result.andThen_ok, List.map_toArray, List.map_cons, List.map_nil, hs, hx, hr]
  exact h A' c' w' h2 h3 h5
theorem mergeNull (zs : List (Int × Int)) : mergeC 0 0 [] zs = 8 := by rw [mergeC, if_neg (by simp [mayC, newOk])]

set_option maxHeartbeats 12800000 in
set_option maxRecDepth 100000 in
theorem cacheOnce_any (w : World) (ow ca : Int) (A0 : Option Addr) (n0 c0 : Nat) (xs : List (Int × Int)) (hX : Descs w 0 w.heap.size A0 n0 xs) (A1 : Option Addr) (n1 c1 : Nat) (ys : List (Int × Int)) (hY : Descs w 0 w.heap.size A1 n1 ys) (A2 : Option Addr) (n2 c2 : Nat) (zs : List (Int × Int)) (hZ : Descs w 0 w.heap.size A2 n2 zs) :
    Calls Try.prog 8 #[.agg #[.int .i64 ow, .int .i64 ca, .slice A0 n0 c0], .slice A1 n1 c1, .slice A2 n2 c2] w fun e w' => e = .returned (.bool true) ∧ Below w.heap.size w w' := by
  have hLX := Lib.hid hX.len
  have hLY := Lib.hid hY.len
  have hLZ := Lib.hid hZ.len
  have hb0 := hX.big
  have hb1 := hY.big
  have hb2 := hZ.big
  have hwy := Lib.hid hY.wf
  have hwz := Lib.hid hZ.wf
  obtain ⟨u, hu⟩ : ∃ u : World, w.alloc (.cells #[.int .i64 ow, .int .i64 ca, .slice A0 n0 c0] 43) = u := ⟨_, rfl⟩
  have hbu : Below w.heap.size w u := by rw [← hu]; exact (Below.refl _ w).alloc (Nat.le_refl _) _
  have hC : Cch u (w.heap.size + 1) w.heap.size ow ca A0 n0 c0 xs := by rw [← hu]; exact Cch.new hX (Nat.le_refl _) ow ca
  have hsu2 : w.heap.size + 1 ≤ u.heap.size := by rw [← hu]; simp
  have hal := aliveC_p u
  have hHU := Lib.hid hu
  clear hu

  by_cases h21 : n1 > 25
  · go_enter Try.func8, Try.ntmps8
    go_wp2_with fail
    rw [hHU.out]
    refine hal.mono ?_
    rintro e w1 ⟨rfl, hb, hp1⟩
    have hc := hbu.trans (hb.mono (by omega))
    clear hb hal hbu
    go_wp2
    go_ret
    exact ⟨rfl, hc⟩
  · have hd0 : decide ((25 : Int) < n1) = false := by simp; omega
    by_cases h22 : n2 > 25
    · go_enter Try.func8, Try.ntmps8
      go_wp2_with fail
      rw [hHU.out]
      refine hal.mono ?_
      rintro e w1 ⟨rfl, hb, hp1⟩
      have hc := hbu.trans (hb.mono (by omega))
      clear hb hal hbu
      go_wp2
      go_ret
      exact ⟨rfl, hc⟩
    · have hd1 : decide ((25 : Int) < n2) = false := by simp; omega
      go_enter Try.func8, Try.ntmps8
      go_wp2_with fail
      rw [hHU.out]
      refine hal.mono ?_
      rintro e w1 ⟨rfl, hb, hp1⟩
      have hs1 := hb.size
      have C := hC.below hb (by omega)
      have hc := hbu.trans (hb.mono (by omega))
      have Y := hY.below hc (Nat.le_refl _)
      have Z := hZ.below hc (Nat.le_refl _)
      clear hb hY hZ hX hC hbu hal hHU
      obtain ⟨k1, k2, k3⟩ := C.cells
      obtain ⟨r, hr⟩ : ∃ r, mergeC ow ca xs ys = r := ⟨_, rfl⟩
      have HR := Lib.hid hr
      clear hr
      go_wp2_with fail
      by_cases hz : r = 0
      · subst hz
        obtain ⟨hm, hcy, _⟩ := merge_zeroM HR.out
        have hTm := taken_mayC HR.out
        have h6 := may_six hm
        have h6t := (may_six hTm).1
        rw [hLX.out] at h6
        obtain ⟨h6, h61, h62⟩ := h6
        obtain ⟨f, hf⟩ : ∃ f, check zs = f := ⟨_, rfl⟩
        have hmf : mergeC ow ca (taken ow ca.toNat (xs ++ ys)) zs = f := by rw [merge_code hTm (by rw [hLZ.out]; omega), hf]
        have hmt := merge_ok hTm hcy (by rw [hLY.out]; omega)
        have htw := once_twice ow ca.toNat xs ys
        have hta := once_all ow ca.toNat xs ys zs
        have hts := once_swap ow ca.toNat xs ys zs
        have hall : f = 0 → mergeC ow ca xs (ys ++ zs) = 0 := fun h0 => by
          subst h0
          exact merge_ok hm (check_app hcy hf (by rw [hLY.out, hLZ.out]; omega)) (by rw [List.length_append, hLX.out, hLY.out, hLZ.out]; omega)
        have hpz : f = 0 → mergeC ow ca xs zs = 0 := fun h0 => by
          subst h0
          exact merge_ok hm hf (by rw [hLX.out, hLZ.out]; omega)
        have hqz : f = 0 → mergeC ow ca (taken ow ca.toNat (xs ++ zs)) ys = 0 := fun h0 => by
          have hh := taken_mayC (hpz h0)
          exact merge_ok hh hcy (by have := (may_six hh).1; rw [hLY.out]; omega)
        obtain ⟨T1, hT1⟩ : ∃ T, taken ow ca.toNat (xs ++ ys) = T := ⟨_, rfl⟩
        obtain ⟨T2, hT2⟩ : ∃ T, taken ow ca.toNat (xs ++ zs) = T := ⟨_, rfl⟩
        obtain ⟨T3, hT3⟩ : ∃ T, taken ow ca.toNat (xs ++ (ys ++ zs)) = T := ⟨_, rfl⟩
        rw [hT1] at hmf hmt htw hta
        rw [hT2] at hqz hts
        rw [hT3] at hta hts
        have HF := Lib.hid hf
        have HMF := Lib.hid hmf
        have HMT := Lib.hid hmt
        have HTW := Lib.hid htw
        have HTA := Lib.hid hta
        have HTS := Lib.hid hts
        have HALL := Lib.hid hall
        have HPZ := Lib.hid hpz
        have HQZ := Lib.hid hqz
        have HT1 := Lib.hid hT1
        have HT2 := Lib.hid hT2
        have HT3 := Lib.hid hT3
        clear hm hcy hTm h6t hf hmf hmt htw hta hts hall hpz hqz hT1 hT2 hT3
        refine (Merge_lit _ ow ca A0 n0 c0 xs (C.mem.more (by first | omega | (simp; done) | (simp; omega)) (by first | omega | (simp; done) | (simp; omega))) A1 n1 c1 ys (Y.more (by first | omega | (simp; done) | (simp; omega)) (by first | omega | (simp; done) | (simp; omega))) T1 HR.out HT1.out).mono ?_
        rintro e w2 ⟨B2, m2, d2, r2, rfl, hcd2, hb, _, hr2, V⟩
        have hs2 := hb.size
        (try simp at hs2)
        have C := (C.below hb (by first | omega | (simp; done) | (simp; omega))).alloc (by first | omega | (simp; done) | (simp; omega)) (.cells #[.int .i64 ow, .int .i64 ca, .slice B2 m2 d2] 43)
        have Y := (Y.below hb (by first | omega | (simp; done) | (simp; omega))).alloc (by first | omega | (simp; done) | (simp; omega)) (.cells #[.int .i64 ow, .int .i64 ca, .slice B2 m2 d2] 43)
        have Z := (Z.below hb (by first | omega | (simp; done) | (simp; omega))).alloc (by first | omega | (simp; done) | (simp; omega)) (.cells #[.int .i64 ow, .int .i64 ca, .slice B2 m2 d2] 43)
        have D := Cch.new (c := d2) V (by first | omega | (simp; done) | (simp; omega)) ow ca
        have hc := (hc.trans (hb.mono (by first | omega | (simp; done) | (simp; omega)))).alloc (by first | omega | (simp; done) | (simp; omega)) (.cells #[.int .i64 ow, .int .i64 ca, .slice B2 m2 d2] 43)
        clear hb V
        clear k1 k2 k3
        obtain ⟨k1, k2, k3⟩ := D.cells
        go_wp2_with fail
        by_cases hfz : f = 0
        · subst hfz
          replace HALL := Lib.hid (HALL.out rfl)
          replace HPZ := Lib.hid (HPZ.out rfl)
          replace HQZ := Lib.hid (HQZ.out rfl)
          refine (Merge_lit _ ow ca B2 m2 d2 T1 (D.mem.more (by first | omega | (simp; done) | (simp; omega)) (by first | omega | (simp; done) | (simp; omega))) A2 n2 c2 zs (Z.more (by first | omega | (simp; done) | (simp; omega)) (by first | omega | (simp; done) | (simp; omega))) T3 HMF.out HTA.out).mono ?_
          rintro e w3 ⟨B3, m3, d3, r3, rfl, hcd3, hb, _, hr3, V⟩
          have hs3 := hb.size
          (try simp at hs3)
          have C := (C.below hb (by first | omega | (simp; done) | (simp; omega))).alloc (by first | omega | (simp; done) | (simp; omega)) (.cells #[.int .i64 ow, .int .i64 ca, .slice B3 m3 d3] 43)
          have D := (D.below hb (by first | omega | (simp; done) | (simp; omega))).alloc (by first | omega | (simp; done) | (simp; omega)) (.cells #[.int .i64 ow, .int .i64 ca, .slice B3 m3 d3] 43)
          have Y := (Y.below hb (by first | omega | (simp; done) | (simp; omega))).alloc (by first | omega | (simp; done) | (simp; omega)) (.cells #[.int .i64 ow, .int .i64 ca, .slice B3 m3 d3] 43)
          have Z := (Z.below hb (by first | omega | (simp; done) | (simp; omega))).alloc (by first | omega | (simp; done) | (simp; omega)) (.cells #[.int .i64 ow, .int .i64 ca, .slice B3 m3 d3] 43)
          have E := Cch.new (c := d3) V (by first | omega | (simp; done) | (simp; omega)) ow ca
          have hc := (hc.trans (hb.mono (by first | omega | (simp; done) | (simp; omega)))).alloc (by first | omega | (simp; done) | (simp; omega)) (.cells #[.int .i64 ow, .int .i64 ca, .slice B3 m3 d3] 43)
          clear hb V
          clear k1 k2 k3
          obtain ⟨k1, k2, k3⟩ := D.cells
          go_wp2_with fail
          refine (Merge_lit _ ow ca B2 m2 d2 T1 (D.mem.more (by first | omega | (simp; done) | (simp; omega)) (by first | omega | (simp; done) | (simp; omega))) A1 n1 c1 ys (Y.more (by first | omega | (simp; done) | (simp; omega)) (by first | omega | (simp; done) | (simp; omega))) T1 HMT.out HTW.out).mono ?_
          rintro e w4 ⟨B4, m4, d4, r4, rfl, hcd4, hb, _, hr4, V⟩
          have hs4 := hb.size
          (try simp at hs4)
          have C := (C.below hb (by first | omega | (simp; done) | (simp; omega))).alloc (by first | omega | (simp; done) | (simp; omega)) (.cells #[.int .i64 ow, .int .i64 ca, .slice B4 m4 d4] 43)
          have D := (D.below hb (by first | omega | (simp; done) | (simp; omega))).alloc (by first | omega | (simp; done) | (simp; omega)) (.cells #[.int .i64 ow, .int .i64 ca, .slice B4 m4 d4] 43)
          have E := (E.below hb (by first | omega | (simp; done) | (simp; omega))).alloc (by first | omega | (simp; done) | (simp; omega)) (.cells #[.int .i64 ow, .int .i64 ca, .slice B4 m4 d4] 43)
          have Y := (Y.below hb (by first | omega | (simp; done) | (simp; omega))).alloc (by first | omega | (simp; done) | (simp; omega)) (.cells #[.int .i64 ow, .int .i64 ca, .slice B4 m4 d4] 43)
          have Z := (Z.below hb (by first | omega | (simp; done) | (simp; omega))).alloc (by first | omega | (simp; done) | (simp; omega)) (.cells #[.int .i64 ow, .int .i64 ca, .slice B4 m4 d4] 43)
          have F := Cch.new (c := d4) V (by first | omega | (simp; done) | (simp; omega)) ow ca
          have hc := (hc.trans (hb.mono (by first | omega | (simp; done) | (simp; omega)))).alloc (by first | omega | (simp; done) | (simp; omega)) (.cells #[.int .i64 ow, .int .i64 ca, .slice B4 m4 d4] 43)
          clear hb V
          clear k1 k2 k3
          obtain ⟨k1, k2, k3⟩ := D.cells
          go_wp2_with fail
          refine (SameC_any _ ow ca ow ca _ _ _ _ B4 B2 m4 d4 m2 d2 T1 T1 F.mem D.mem (by first | omega | (simp; done) | (simp; omega)) (by first | omega | (simp; done) | (simp; omega)) true (by simp [sameC, Sm_refl])).mono ?_
          rintro e w5 ⟨rfl, hb⟩
          have hs5 := hb.size
          simp at hs5
          have C := C.below hb (by first | omega | (simp; done) | (simp; omega))
          have E := E.below hb (by first | omega | (simp; done) | (simp; omega))
          have Y := Y.below hb (by first | omega | (simp; done) | (simp; omega))
          have Z := Z.below hb (by first | omega | (simp; done) | (simp; omega))
          have hc := hc.trans (hb.mono (by first | omega | (simp; done) | (simp; omega)))
          clear hb k1 k2 k3 D F
          obtain ⟨k1, k2, k3⟩ := C.cells
          have k1a : ∀ o, (w5.alloc o).cell? ⟨w.heap.size, 0, none⟩ = some (.int .i64 ow) := fun o => (C.alloc (by first | omega | (simp; done) | (simp; omega)) o).cells.1
          have mixed : Try.prog.follows .mixedOrders = true := by kernel_rfl
          have HWF : Hid (∀ x ∈ ys ++ zs, Rng x) := fun x hx => by
            rcases List.mem_append.1 hx with h | h
            · exact hwy.out x h
            · exact hwz.out x h
          obtain ⟨i0, hi0, hz0, hz1, hz2⟩ := info_parts Try.info29
          go_wp2_with fail
          go_cut [14, 15] (fun s14 s15 wx => ∃ gz B6 m6 d6, s14 = .pointer (some ⟨gz, 0, none⟩) ∧ s15 = .int .i64 0 ∧ Cch wx wx.heap.size gz ow ca B6 m6 d6 T3 ∧ Below w5.heap.size w5 wx)
          case first =>
            refine region_E (KeepsC w5) [11] (m := 13) (L := #[false, false, false, false, false, false, false, false, false, false, false, false, false]) (by kernel_rfl) (by rfl) (by rfl) ?_
            have b0 : Below w5.heap.size w5 w5.drew := (Below.refl _ _).drew
            have sz0 : w5.heap.size ≤ w5.drew.heap.size := Nat.le_refl _
            have hlt5 : w.heap.size < w5.heap.size := by omega
            generalize w5.drew = v0 at *
            have kp0 : KeepsC w5 v0 := fun p hp => b0.block p hp
            refine pureE (i := 2) (L := #[false, false, true, false, false, false, false, false, false, false, false, false, false]) (v := ?_) rfl (by rfl) (by kernel_rfl) (by kernel_rfl) (by kernel_rfl) (fun _ _ _ h => h) (by rfl) ?hy1 ?rest1
            case hy1 => intro w; go_simp; (try with_reducible rfl)
            try simp only [Act.put, List.setIfInBounds_toArray, List.set_cons_zero, List.set_cons_succ]
            refine pureE (i := 4) (L := #[false, false, true, false, true, false, false, false, false, false, false, false, false]) (v := ?_) rfl (by rfl) (by kernel_rfl) (by kernel_rfl) (by kernel_rfl) (fun _ _ _ h => h) (by rfl) ?hy2 ?rest2
            case hy2 => intro w; go_simp; (try with_reducible rfl)
            try simp only [Act.put, List.setIfInBounds_toArray, List.set_cons_zero, List.set_cons_succ]
            refine readE (i := 0) (L := #[true, false, true, false, true, false, false, false, false, false, false, false, false]) (v := .agg #[.int .i64 ow, .int .i64 ca, .slice A0 n0 c0]) rfl (by rfl) (by kernel_rfl) (by kernel_rfl) (by kernel_rfl) (fun _ _ _ h => h) (by assumption) (by rfl) ?ry_1 ?rr_1
            case ry_1 =>
              intro w' h1
              obtain ⟨⟨p0, p1, p2⟩, _⟩ := cells3 ((h1 _ hlt5).trans C.blk)
              go_simp
            try simp only [Act.put, List.setIfInBounds_toArray, List.set_cons_zero, List.set_cons_succ]
            refine stepK2 (i := 1) (j := 10) (Li := #[true, true, true, false, true, false, false, false, false, false, false, false, false]) (Lj := #[true, false, true, false, true, false, false, false, false, false, true, false, false]) rfl rfl (by rfl) (by rfl) (by kernel_rfl) (by rfl) (by rfl) (fun K hK => ?oa_1) (fun K hK => ?ob_2)
            case oa_1 =>
              
              go_simp
              have b_4 := b0.alloc sz0 (.cells #[] 29)
              have own_6 := own_new (base := w5.heap.size) (size := 2) (heap_alloc_last v0 (.cells #[] 29)) sz0
              have sz_5 : w5.heap.size ≤ (v0.alloc (.cells #[] 29)).heap.size := by have := World.size_alloc v0 (.cells #[] 29); omega
              generalize hw : v0.alloc (.cells #[] 29) = v_3 at *
              clear hw
              refine hK _ _ ⟨fun _ _ p hp => b_4.block p hp, ?_⟩
              clear hK K
              try simp only [Act.put, List.setIfInBounds_toArray, List.set_cons_zero, List.set_cons_succ]
              refine stepK2 (i := 3) (j := 10) (Li := #[true, true, true, true, true, false, false, false, false, false, false, false, false]) (Lj := #[true, true, true, false, true, false, false, false, false, false, true, false, false]) rfl rfl (by rfl) (by rfl) (by kernel_rfl) (by rfl) (by rfl) (fun K hK => ?oa_7) (fun K hK => ?ob_8)
              case oa_7 =>
                
                refine wp_append_rawC (.tmp 80) (.tmp 81) 22 rfl w5.heap.size 29 i0 _ 2 16 Try.underlying22 hi0 hz0 hz1 hz2 rfl (by decide) (.slice (some ⟨v0.heap.size, 0, none⟩) 0 0) 0 [] rfl own_6 _ _ A1 n1 c1 (flatD ys) rfl (Y.below b_4 (by omega)).raw (flatD_one _) (by unfold maxLen; omega) (by omega) sz_5 ?_
                intro G1 g1 v_9 own_12 hgr_13 _
                have b_10 := b_4.grown hgr_13 sz_5 (fun q hq => (own_6.lt q hq).1)
                have sz_11 : w5.heap.size ≤ v_9.heap.size := b_10.size
                simp only [Nat.zero_add, List.nil_append] at own_12 ⊢
                refine hK _ _ ⟨fun _ _ p hp => b_10.block p hp, ?_⟩
                clear hK K
                try simp only [Act.put, List.setIfInBounds_toArray, List.set_cons_zero, List.set_cons_succ]
                refine stepK2 (i := 5) (j := 10) (Li := #[true, true, true, true, true, true, false, false, false, false, false, false, false]) (Lj := #[true, true, true, true, true, false, false, false, false, false, true, false, false]) rfl rfl (by rfl) (by rfl) (by kernel_rfl) (by rfl) (by rfl) (fun K hK => ?oa_14) (fun K hK => ?ob_15)
                case oa_14 =>
                  
                  refine wp_append_rawC (.tmp 82) (.tmp 83) 22 rfl w5.heap.size 29 i0 _ 2 16 Try.underlying22 hi0 hz0 hz1 hz2 rfl (by decide) (.slice G1 n1 g1) n1 (flatD ys) rfl own_12 _ _ A2 n2 c2 (flatD zs) rfl (Z.below b_10 (by omega)).raw (flatD_one _) (by unfold maxLen; omega) (by omega) sz_11 ?_
                  intro G2 g2 v_16 own_19 hgr_20 _
                  have b_17 := b_10.grown hgr_20 sz_11 (fun q hq => (own_12.lt q hq).1)
                  have sz_18 : w5.heap.size ≤ v_16.heap.size := b_17.size
                  refine hK _ _ ⟨fun _ _ p hp => b_17.block p hp, ?_⟩
                  clear hK K
                  try simp only [Act.put, List.setIfInBounds_toArray, List.set_cons_zero, List.set_cons_succ]
                  have R : Descs v_16 w5.heap.size v_16.heap.size G2 (n1 + n2) (ys ++ zs) := Descs.of_own (by rw [flatD_append]; exact own_19) HWF.out (by omega)
                  refine stepK2 (i := 6) (j := 10) (Li := #[true, true, true, true, true, true, true, false, false, false, false, false, false]) (Lj := #[true, true, true, true, true, true, false, false, false, false, true, false, false]) rfl rfl (by rfl) (by rfl) (by kernel_rfl) (by rfl) (by rfl) (fun K hK => ?oa_21) (fun K hK => ?ob_22)
                  case oa_21 =>
                    
                    go_simp
                    go_at_call 31
                    refine (Merge_lit v_16 ow ca A0 n0 c0 xs ((C.mem.below b_17 (by omega)).more (Nat.le_refl _) (by omega)) G2 (n1 + n2) g2 (ys ++ zs) (R.more (Nat.zero_le _) (Nat.le_refl _)) T3 HALL.out HT3.out).mono ?_
                    rintro e v_23 ⟨B6, m6, d6, r6, rfl, hcd6, hb6, hlo6, hr6, V⟩
                    have b_24 := b_17.trans (hb6.mono sz_18)
                    have sz_25 : w5.heap.size ≤ v_23.heap.size := b_24.size
                    refine hK _ _ ⟨fun _ _ p hp => b_24.block p hp, ?_⟩
                    clear hK K
                    try simp only [Act.put, List.setIfInBounds_toArray, List.set_cons_zero, List.set_cons_succ]
                    refine pureE (i := 7) (L := #[true, true, true, true, true, true, true, true, false, false, false, false, false]) (v := ?_) rfl (by rfl) (by kernel_rfl) (by kernel_rfl) (by kernel_rfl) (fun _ _ _ h => h) (by rfl) ?hy4 ?rest4
                    case hy4 => intro w; go_simp; (try with_reducible rfl)
                    try simp only [Act.put, List.setIfInBounds_toArray, List.set_cons_zero, List.set_cons_succ]
                    refine pureE (i := 8) (L := #[true, true, true, true, true, true, true, true, true, false, false, false, false]) (v := ?_) rfl (by rfl) (by kernel_rfl) (by kernel_rfl) (by kernel_rfl) (fun _ _ _ h => h) (by rfl) ?hy5 ?rest5
                    case hy5 => intro w; go_simp; (try with_reducible rfl)
                    try simp only [Act.put, List.setIfInBounds_toArray, List.set_cons_zero, List.set_cons_succ]
                    refine pureE (i := 9) (L := #[true, true, true, true, true, true, true, true, true, true, false, false, false]) (v := ?_) rfl (by rfl) (by kernel_rfl) (by kernel_rfl) (by kernel_rfl) (fun _ _ _ h => h) (by rfl) ?hy6 ?rest6
                    case hy6 => intro w; go_simp; (try with_reducible rfl)
                    try simp only [Act.put, List.setIfInBounds_toArray, List.set_cons_zero, List.set_cons_succ]
                    refine stepK (i := 10) (L := #[true, true, true, true, true, true, true, true, true, true, true, false, false]) rfl (by rfl) (by kernel_rfl) (by rfl) (fun K hK => ?_)
                    go_simp
                    have b_28 := b_24.alloc sz_25 (.cells #[.int .i64 0, .int .i64 0, .slice none 0 0] 43)
                    have sz_29 : v_23.heap.size < (v_23.alloc (.cells #[.int .i64 0, .int .i64 0, .slice none 0 0] 43)).heap.size := by simp
                    have hG_30 := heap_alloc_last v_23 (.cells #[.int .i64 0, .int .i64 0, .slice none 0 0] 43)
                    have V2 := V.alloc (by omega) (.cells #[.int .i64 0, .int .i64 0, .slice none 0 0] 43)
                    generalize hw : v_23.alloc (.cells #[.int .i64 0, .int .i64 0, .slice none 0 0] 43) = v_27 at *
                    clear hw
                    have sz_31 : w5.heap.size ≤ v_27.heap.size := by omega
                    refine hK _ _ ⟨fun _ _ p hp => b_28.block p hp, ?_⟩
                    clear hK K
                    try simp only [Act.put, List.setIfInBounds_toArray, List.set_cons_zero, List.set_cons_succ]
                    obtain ⟨⟨z1, z2, z3⟩, z4, z5, z6⟩ := cells3 hG_30
                    refine stepK (i := 11) (L := #[true, true, true, true, true, true, true, true, true, true, true, true, false]) rfl (by rfl) (by kernel_rfl) (by rfl) (fun K hK => ?_)
                    go_simp
                    refine hK _ _ ⟨fun h => absurd h (by decide), ?_⟩
                    clear hK K z1 z2 z3 z4 z5 z6
                    try simp only [Act.put, List.setIfInBounds_toArray, List.set_cons_zero, List.set_cons_succ]
                    have hX7 := put3 hG_30 (.int .i64 ow) (.int .i64 ca) (.slice B6 m6 d6)
                    have hV7 := far3 V2 (g := v_23.heap.size) (fun h0 => .inr (by omega)) (.int .i64 ow) (.int .i64 ca) (.slice B6 m6 d6)
                    have hS7 : v_27.heap.size ≤ (((v_27.setCell ⟨v_23.heap.size, 0, none⟩ (.int .i64 ow)).setCell ⟨v_23.heap.size, 1, none⟩ (.int .i64 ca)).setCell ⟨v_23.heap.size, 2, none⟩ (.slice B6 m6 d6)).heap.size := by simp [World.setCell]
                    have hb7 := ((b_28.setCell (p := ⟨v_23.heap.size, 0, none⟩) sz_25 (.int .i64 ow)).setCell (p := ⟨v_23.heap.size, 1, none⟩) sz_25 (.int .i64 ca)).setCell (p := ⟨v_23.heap.size, 2, none⟩) sz_25 (.slice B6 m6 d6)
                    generalize ((v_27.setCell ⟨v_23.heap.size, 0, none⟩ (.int .i64 ow)).setCell ⟨v_23.heap.size, 1, none⟩ (.int .i64 ca)).setCell ⟨v_23.heap.size, 2, none⟩ (.slice B6 m6 d6) = U7 at *
                    refine pureE (i := 12) (L := #[true, true, true, true, true, true, true, true, true, true, true, true, true]) (v := ?_) rfl (by rfl) (by kernel_rfl) (by kernel_rfl) (by kernel_rfl) (fun _ _ _ h => h) (by rfl) ?hy9 ?rest9
                    case hy9 => intro w; go_simp; (try with_reducible rfl)
                    try simp only [Act.put, List.setIfInBounds_toArray, List.set_cons_zero, List.set_cons_succ]
                    refine doneE (by kernel_rfl) ?_ _
                    go_wp2_with fail
                    go_meet
                    exact ⟨v_23.heap.size, B6, m6, d6, rfl, rfl, ⟨hX7, hV7.more (Nat.zero_le _) (by omega), by omega⟩, hb7⟩
                  case ob_22 =>
                    
                    have R2 := R.alloc (Nat.le_refl _) (.cells #[.int .i64 0, .int .i64 0, .slice none 0 0] 43)
                    go_simp
                    have b_33 := b_17.alloc sz_18 (.cells #[.int .i64 0, .int .i64 0, .slice none 0 0] 43)
                    have sz_34 : v_16.heap.size < (v_16.alloc (.cells #[.int .i64 0, .int .i64 0, .slice none 0 0] 43)).heap.size := by simp
                    have hG_35 := heap_alloc_last v_16 (.cells #[.int .i64 0, .int .i64 0, .slice none 0 0] 43)
                    have own_36 := World.ownsRow.alloc own_19 (.cells #[.int .i64 0, .int .i64 0, .slice none 0 0] 43)
                    generalize hw : v_16.alloc (.cells #[.int .i64 0, .int .i64 0, .slice none 0 0] 43) = v_32 at *
                    clear hw
                    have sz_37 : w5.heap.size ≤ v_32.heap.size := by omega
                    refine hK _ _ ⟨fun _ _ p hp => b_33.block p hp, ?_⟩
                    clear hK K
                    try simp only [Act.put, List.setIfInBounds_toArray, List.set_cons_zero, List.set_cons_succ]
                    refine stepK (i := 6) (L := #[true, true, true, true, true, true, true, false, false, false, true, false, false]) rfl (by rfl) (by kernel_rfl) (by rfl) (fun K hK => ?_)
                    go_simp
                    go_at_call 31
                    refine (Merge_lit v_32 ow ca A0 n0 c0 xs ((C.mem.below b_33 (by omega)).more (Nat.le_refl _) (by omega)) G2 (n1 + n2) g2 (ys ++ zs) (R2.more (Nat.zero_le _) (by omega)) T3 HALL.out HT3.out).mono ?_
                    rintro e v_38 ⟨B6, m6, d6, r6, rfl, hcd6, hb6, hlo6, hr6, V⟩
                    have b_39 := b_33.trans (hb6.mono sz_37)
                    have sz_40 : w5.heap.size ≤ v_38.heap.size := b_39.size
                    have hG_42 := keepB hb6 hG_35
                    have gs_43 : v_16.heap.size < v_38.heap.size := Nat.lt_of_lt_of_le sz_34 hb6.size
                    refine hK _ _ ⟨fun _ _ p hp => b_39.block p hp, ?_⟩
                    clear hK K
                    try simp only [Act.put, List.setIfInBounds_toArray, List.set_cons_zero, List.set_cons_succ]
                    refine pureE (i := 7) (L := #[true, true, true, true, true, true, true, true, false, false, true, false, false]) (v := ?_) rfl (by rfl) (by kernel_rfl) (by kernel_rfl) (by kernel_rfl) (fun _ _ _ h => h) (by rfl) ?hy11 ?rest11
                    case hy11 => intro w; go_simp; (try with_reducible rfl)
                    try simp only [Act.put, List.setIfInBounds_toArray, List.set_cons_zero, List.set_cons_succ]
                    refine pureE (i := 8) (L := #[true, true, true, true, true, true, true, true, true, false, true, false, false]) (v := ?_) rfl (by rfl) (by kernel_rfl) (by kernel_rfl) (by kernel_rfl) (fun _ _ _ h => h) (by rfl) ?hy12 ?rest12
                    case hy12 => intro w; go_simp; (try with_reducible rfl)
                    try simp only [Act.put, List.setIfInBounds_toArray, List.set_cons_zero, List.set_cons_succ]
                    refine pureE (i := 9) (L := #[true, true, true, true, true, true, true, true, true, true, true, false, false]) (v := ?_) rfl (by rfl) (by kernel_rfl) (by kernel_rfl) (by kernel_rfl) (fun _ _ _ h => h) (by rfl) ?hy13 ?rest13
                    case hy13 => intro w; go_simp; (try with_reducible rfl)
                    try simp only [Act.put, List.setIfInBounds_toArray, List.set_cons_zero, List.set_cons_succ]
                    obtain ⟨⟨z1, z2, z3⟩, z4, z5, z6⟩ := cells3 hG_42
                    refine stepK (i := 11) (L := #[true, true, true, true, true, true, true, true, true, true, true, true, false]) rfl (by rfl) (by kernel_rfl) (by rfl) (fun K hK => ?_)
                    go_simp
                    refine hK _ _ ⟨fun h => absurd h (by decide), ?_⟩
                    clear hK K z1 z2 z3 z4 z5 z6
                    try simp only [Act.put, List.setIfInBounds_toArray, List.set_cons_zero, List.set_cons_succ]
                    have hX7 := put3 hG_42 (.int .i64 ow) (.int .i64 ca) (.slice B6 m6 d6)
                    have hV7 := far3 V (g := v_16.heap.size) (fun h0 => .inl (by have := hlo6 h0; omega)) (.int .i64 ow) (.int .i64 ca) (.slice B6 m6 d6)
                    have hS7 : v_38.heap.size ≤ (((v_38.setCell ⟨v_16.heap.size, 0, none⟩ (.int .i64 ow)).setCell ⟨v_16.heap.size, 1, none⟩ (.int .i64 ca)).setCell ⟨v_16.heap.size, 2, none⟩ (.slice B6 m6 d6)).heap.size := by simp [World.setCell]
                    have hb7 := ((b_39.setCell (p := ⟨v_16.heap.size, 0, none⟩) sz_18 (.int .i64 ow)).setCell (p := ⟨v_16.heap.size, 1, none⟩) sz_18 (.int .i64 ca)).setCell (p := ⟨v_16.heap.size, 2, none⟩) sz_18 (.slice B6 m6 d6)
                    generalize ((v_38.setCell ⟨v_16.heap.size, 0, none⟩ (.int .i64 ow)).setCell ⟨v_16.heap.size, 1, none⟩ (.int .i64 ca)).setCell ⟨v_16.heap.size, 2, none⟩ (.slice B6 m6 d6) = U7 at *
                    refine pureE (i := 12) (L := #[true, true, true, true, true, true, true, true, true, true, true, true, true]) (v := ?_) rfl (by rfl) (by kernel_rfl) (by kernel_rfl) (by kernel_rfl) (fun _ _ _ h => h) (by rfl) ?hy15 ?rest15
                    case hy15 => intro w; go_simp; (try with_reducible rfl)
                    try simp only [Act.put, List.setIfInBounds_toArray, List.set_cons_zero, List.set_cons_succ]
                    refine doneE (by kernel_rfl) ?_ _
                    go_wp2_with fail
                    go_meet
                    exact ⟨v_16.heap.size, B6, m6, d6, rfl, rfl, ⟨hX7, hV7.more (Nat.zero_le _) (by omega), by omega⟩, hb7⟩
                case ob_15 =>
                  
                  go_simp
                  have b_45 := b_10.alloc sz_11 (.cells #[.int .i64 0, .int .i64 0, .slice none 0 0] 43)
                  have sz_46 : v_9.heap.size < (v_9.alloc (.cells #[.int .i64 0, .int .i64 0, .slice none 0 0] 43)).heap.size := by simp
                  have hG_47 := heap_alloc_last v_9 (.cells #[.int .i64 0, .int .i64 0, .slice none 0 0] 43)
                  have own_48 := World.ownsRow.alloc own_12 (.cells #[.int .i64 0, .int .i64 0, .slice none 0 0] 43)
                  generalize hw : v_9.alloc (.cells #[.int .i64 0, .int .i64 0, .slice none 0 0] 43) = v_44 at *
                  clear hw
                  have sz_49 : w5.heap.size ≤ v_44.heap.size := by omega
                  refine hK _ _ ⟨fun _ _ p hp => b_45.block p hp, ?_⟩
                  clear hK K
                  try simp only [Act.put, List.setIfInBounds_toArray, List.set_cons_zero, List.set_cons_succ]
                  refine stepK (i := 5) (L := #[true, true, true, true, true, true, false, false, false, false, true, false, false]) rfl (by rfl) (by kernel_rfl) (by rfl) (fun K hK => ?_)
                  refine wp_append_rawC (.tmp 82) (.tmp 83) 22 rfl w5.heap.size 29 i0 _ 2 16 Try.underlying22 hi0 hz0 hz1 hz2 rfl (by decide) (.slice G1 n1 g1) n1 (flatD ys) rfl own_48 _ _ A2 n2 c2 (flatD zs) rfl (Z.below b_45 (by omega)).raw (flatD_one _) (by unfold maxLen; omega) (by omega) sz_49 ?_
                  intro G2 g2 v_50 own_53 hgr_54 _
                  have b_51 := b_45.grown hgr_54 sz_49 (fun q hq => (own_48.lt q hq).1)
                  have sz_52 : w5.heap.size ≤ v_50.heap.size := b_51.size
                  have hG_55 := keepZ hgr_54 own_48 (by decide) hG_47
                  have gs_56 : v_9.heap.size < v_50.heap.size := Nat.lt_of_lt_of_le sz_46 hgr_54.size
                  refine hK _ _ ⟨fun _ _ p hp => b_51.block p hp, ?_⟩
                  clear hK K
                  try simp only [Act.put, List.setIfInBounds_toArray, List.set_cons_zero, List.set_cons_succ]
                  have R : Descs v_50 w5.heap.size v_50.heap.size G2 (n1 + n2) (ys ++ zs) := Descs.of_own (by rw [flatD_append]; exact own_53) HWF.out (by omega)
                  refine stepK (i := 6) (L := #[true, true, true, true, true, true, true, false, false, false, true, false, false]) rfl (by rfl) (by kernel_rfl) (by rfl) (fun K hK => ?_)
                  go_simp
                  go_at_call 31
                  refine (Merge_lit v_50 ow ca A0 n0 c0 xs ((C.mem.below b_51 (by omega)).more (Nat.le_refl _) (by omega)) G2 (n1 + n2) g2 (ys ++ zs) (R.more (Nat.zero_le _) (Nat.le_refl _)) T3 HALL.out HT3.out).mono ?_
                  rintro e v_57 ⟨B6, m6, d6, r6, rfl, hcd6, hb6, hlo6, hr6, V⟩
                  have b_58 := b_51.trans (hb6.mono sz_52)
                  have sz_59 : w5.heap.size ≤ v_57.heap.size := b_58.size
                  have hG_61 := keepB hb6 hG_55
                  have gs_62 : v_9.heap.size < v_57.heap.size := Nat.lt_of_lt_of_le gs_56 hb6.size
                  refine hK _ _ ⟨fun _ _ p hp => b_58.block p hp, ?_⟩
                  clear hK K
                  try simp only [Act.put, List.setIfInBounds_toArray, List.set_cons_zero, List.set_cons_succ]
                  refine pureE (i := 7) (L := #[true, true, true, true, true, true, true, true, false, false, true, false, false]) (v := ?_) rfl (by rfl) (by kernel_rfl) (by kernel_rfl) (by kernel_rfl) (fun _ _ _ h => h) (by rfl) ?hy18 ?rest18
                  case hy18 => intro w; go_simp; (try with_reducible rfl)
                  try simp only [Act.put, List.setIfInBounds_toArray, List.set_cons_zero, List.set_cons_succ]
                  refine pureE (i := 8) (L := #[true, true, true, true, true, true, true, true, true, false, true, false, false]) (v := ?_) rfl (by rfl) (by kernel_rfl) (by kernel_rfl) (by kernel_rfl) (fun _ _ _ h => h) (by rfl) ?hy19 ?rest19
                  case hy19 => intro w; go_simp; (try with_reducible rfl)
                  try simp only [Act.put, List.setIfInBounds_toArray, List.set_cons_zero, List.set_cons_succ]
                  refine pureE (i := 9) (L := #[true, true, true, true, true, true, true, true, true, true, true, false, false]) (v := ?_) rfl (by rfl) (by kernel_rfl) (by kernel_rfl) (by kernel_rfl) (fun _ _ _ h => h) (by rfl) ?hy20 ?rest20
                  case hy20 => intro w; go_simp; (try with_reducible rfl)
                  try simp only [Act.put, List.setIfInBounds_toArray, List.set_cons_zero, List.set_cons_succ]
                  obtain ⟨⟨z1, z2, z3⟩, z4, z5, z6⟩ := cells3 hG_61
                  refine stepK (i := 11) (L := #[true, true, true, true, true, true, true, true, true, true, true, true, false]) rfl (by rfl) (by kernel_rfl) (by rfl) (fun K hK => ?_)
                  go_simp
                  refine hK _ _ ⟨fun h => absurd h (by decide), ?_⟩
                  clear hK K z1 z2 z3 z4 z5 z6
                  try simp only [Act.put, List.setIfInBounds_toArray, List.set_cons_zero, List.set_cons_succ]
                  have hX7 := put3 hG_61 (.int .i64 ow) (.int .i64 ca) (.slice B6 m6 d6)
                  have hV7 := far3 V (g := v_9.heap.size) (fun h0 => .inl (by have := hlo6 h0; omega)) (.int .i64 ow) (.int .i64 ca) (.slice B6 m6 d6)
                  have hS7 : v_57.heap.size ≤ (((v_57.setCell ⟨v_9.heap.size, 0, none⟩ (.int .i64 ow)).setCell ⟨v_9.heap.size, 1, none⟩ (.int .i64 ca)).setCell ⟨v_9.heap.size, 2, none⟩ (.slice B6 m6 d6)).heap.size := by simp [World.setCell]
                  have hb7 := ((b_58.setCell (p := ⟨v_9.heap.size, 0, none⟩) sz_11 (.int .i64 ow)).setCell (p := ⟨v_9.heap.size, 1, none⟩) sz_11 (.int .i64 ca)).setCell (p := ⟨v_9.heap.size, 2, none⟩) sz_11 (.slice B6 m6 d6)
                  generalize ((v_57.setCell ⟨v_9.heap.size, 0, none⟩ (.int .i64 ow)).setCell ⟨v_9.heap.size, 1, none⟩ (.int .i64 ca)).setCell ⟨v_9.heap.size, 2, none⟩ (.slice B6 m6 d6) = U7 at *
                  refine pureE (i := 12) (L := #[true, true, true, true, true, true, true, true, true, true, true, true, true]) (v := ?_) rfl (by rfl) (by kernel_rfl) (by kernel_rfl) (by kernel_rfl) (fun _ _ _ h => h) (by rfl) ?hy22 ?rest22
                  case hy22 => intro w; go_simp; (try with_reducible rfl)
                  try simp only [Act.put, List.setIfInBounds_toArray, List.set_cons_zero, List.set_cons_succ]
                  refine doneE (by kernel_rfl) ?_ _
                  go_wp2_with fail
                  go_meet
                  exact ⟨v_9.heap.size, B6, m6, d6, rfl, rfl, ⟨hX7, hV7.more (Nat.zero_le _) (by omega), by omega⟩, hb7⟩
              case ob_8 =>
                
                go_simp
                have b_64 := b_4.alloc sz_5 (.cells #[.int .i64 0, .int .i64 0, .slice none 0 0] 43)
                have sz_65 : v_3.heap.size < (v_3.alloc (.cells #[.int .i64 0, .int .i64 0, .slice none 0 0] 43)).heap.size := by simp
                have hG_66 := heap_alloc_last v_3 (.cells #[.int .i64 0, .int .i64 0, .slice none 0 0] 43)
                have own_67 := World.ownsRow.alloc own_6 (.cells #[.int .i64 0, .int .i64 0, .slice none 0 0] 43)
                generalize hw : v_3.alloc (.cells #[.int .i64 0, .int .i64 0, .slice none 0 0] 43) = v_63 at *
                clear hw
                have sz_68 : w5.heap.size ≤ v_63.heap.size := by omega
                refine hK _ _ ⟨fun _ _ p hp => b_64.block p hp, ?_⟩
                clear hK K
                try simp only [Act.put, List.setIfInBounds_toArray, List.set_cons_zero, List.set_cons_succ]
                refine stepK (i := 3) (L := #[true, true, true, true, true, false, false, false, false, false, true, false, false]) rfl (by rfl) (by kernel_rfl) (by rfl) (fun K hK => ?_)
                refine wp_append_rawC (.tmp 80) (.tmp 81) 22 rfl w5.heap.size 29 i0 _ 2 16 Try.underlying22 hi0 hz0 hz1 hz2 rfl (by decide) (.slice (some ⟨v0.heap.size, 0, none⟩) 0 0) 0 [] rfl own_67 _ _ A1 n1 c1 (flatD ys) rfl (Y.below b_64 (by omega)).raw (flatD_one _) (by unfold maxLen; omega) (by omega) sz_68 ?_
                intro G1 g1 v_69 own_72 hgr_73 _
                have b_70 := b_64.grown hgr_73 sz_68 (fun q hq => (own_67.lt q hq).1)
                have sz_71 : w5.heap.size ≤ v_69.heap.size := b_70.size
                have hG_74 := keepZ hgr_73 own_67 (by decide) hG_66
                have gs_75 : v_3.heap.size < v_69.heap.size := Nat.lt_of_lt_of_le sz_65 hgr_73.size
                simp only [Nat.zero_add, List.nil_append] at own_72 ⊢
                refine hK _ _ ⟨fun _ _ p hp => b_70.block p hp, ?_⟩
                clear hK K
                try simp only [Act.put, List.setIfInBounds_toArray, List.set_cons_zero, List.set_cons_succ]
                refine stepK (i := 5) (L := #[true, true, true, true, true, true, false, false, false, false, true, false, false]) rfl (by rfl) (by kernel_rfl) (by rfl) (fun K hK => ?_)
                refine wp_append_rawC (.tmp 82) (.tmp 83) 22 rfl w5.heap.size 29 i0 _ 2 16 Try.underlying22 hi0 hz0 hz1 hz2 rfl (by decide) (.slice G1 n1 g1) n1 (flatD ys) rfl own_72 _ _ A2 n2 c2 (flatD zs) rfl (Z.below b_70 (by omega)).raw (flatD_one _) (by unfold maxLen; omega) (by omega) sz_71 ?_
                intro G2 g2 v_76 own_79 hgr_80 _
                have b_77 := b_70.grown hgr_80 sz_71 (fun q hq => (own_72.lt q hq).1)
                have sz_78 : w5.heap.size ≤ v_76.heap.size := b_77.size
                have hG_81 := keepZ hgr_80 own_72 (by decide) hG_74
                have gs_82 : v_3.heap.size < v_76.heap.size := Nat.lt_of_lt_of_le gs_75 hgr_80.size
                refine hK _ _ ⟨fun _ _ p hp => b_77.block p hp, ?_⟩
                clear hK K
                try simp only [Act.put, List.setIfInBounds_toArray, List.set_cons_zero, List.set_cons_succ]
                have R : Descs v_76 w5.heap.size v_76.heap.size G2 (n1 + n2) (ys ++ zs) := Descs.of_own (by rw [flatD_append]; exact own_79) HWF.out (by omega)
                refine stepK (i := 6) (L := #[true, true, true, true, true, true, true, false, false, false, true, false, false]) rfl (by rfl) (by kernel_rfl) (by rfl) (fun K hK => ?_)
                go_simp
                go_at_call 31
                refine (Merge_lit v_76 ow ca A0 n0 c0 xs ((C.mem.below b_77 (by omega)).more (Nat.le_refl _) (by omega)) G2 (n1 + n2) g2 (ys ++ zs) (R.more (Nat.zero_le _) (Nat.le_refl _)) T3 HALL.out HT3.out).mono ?_
                rintro e v_83 ⟨B6, m6, d6, r6, rfl, hcd6, hb6, hlo6, hr6, V⟩
                have b_84 := b_77.trans (hb6.mono sz_78)
                have sz_85 : w5.heap.size ≤ v_83.heap.size := b_84.size
                have hG_87 := keepB hb6 hG_81
                have gs_88 : v_3.heap.size < v_83.heap.size := Nat.lt_of_lt_of_le gs_82 hb6.size
                refine hK _ _ ⟨fun _ _ p hp => b_84.block p hp, ?_⟩
                clear hK K
                try simp only [Act.put, List.setIfInBounds_toArray, List.set_cons_zero, List.set_cons_succ]
                refine pureE (i := 7) (L := #[true, true, true, true, true, true, true, true, false, false, true, false, false]) (v := ?_) rfl (by rfl) (by kernel_rfl) (by kernel_rfl) (by kernel_rfl) (fun _ _ _ h => h) (by rfl) ?hy26 ?rest26
                case hy26 => intro w; go_simp; (try with_reducible rfl)
                try simp only [Act.put, List.setIfInBounds_toArray, List.set_cons_zero, List.set_cons_succ]
                refine pureE (i := 8) (L := #[true, true, true, true, true, true, true, true, true, false, true, false, false]) (v := ?_) rfl (by rfl) (by kernel_rfl) (by kernel_rfl) (by kernel_rfl) (fun _ _ _ h => h) (by rfl) ?hy27 ?rest27
                case hy27 => intro w; go_simp; (try with_reducible rfl)
                try simp only [Act.put, List.setIfInBounds_toArray, List.set_cons_zero, List.set_cons_succ]
                refine pureE (i := 9) (L := #[true, true, true, true, true, true, true, true, true, true, true, false, false]) (v := ?_) rfl (by rfl) (by kernel_rfl) (by kernel_rfl) (by kernel_rfl) (fun _ _ _ h => h) (by rfl) ?hy28 ?rest28
                case hy28 => intro w; go_simp; (try with_reducible rfl)
                try simp only [Act.put, List.setIfInBounds_toArray, List.set_cons_zero, List.set_cons_succ]
                obtain ⟨⟨z1, z2, z3⟩, z4, z5, z6⟩ := cells3 hG_87
                refine stepK (i := 11) (L := #[true, true, true, true, true, true, true, true, true, true, true, true, false]) rfl (by rfl) (by kernel_rfl) (by rfl) (fun K hK => ?_)
                go_simp
                refine hK _ _ ⟨fun h => absurd h (by decide), ?_⟩
                clear hK K z1 z2 z3 z4 z5 z6
                try simp only [Act.put, List.setIfInBounds_toArray, List.set_cons_zero, List.set_cons_succ]
                have hX7 := put3 hG_87 (.int .i64 ow) (.int .i64 ca) (.slice B6 m6 d6)
                have hV7 := far3 V (g := v_3.heap.size) (fun h0 => .inl (by have := hlo6 h0; omega)) (.int .i64 ow) (.int .i64 ca) (.slice B6 m6 d6)
                have hS7 : v_83.heap.size ≤ (((v_83.setCell ⟨v_3.heap.size, 0, none⟩ (.int .i64 ow)).setCell ⟨v_3.heap.size, 1, none⟩ (.int .i64 ca)).setCell ⟨v_3.heap.size, 2, none⟩ (.slice B6 m6 d6)).heap.size := by simp [World.setCell]
                have hb7 := ((b_84.setCell (p := ⟨v_3.heap.size, 0, none⟩) sz_5 (.int .i64 ow)).setCell (p := ⟨v_3.heap.size, 1, none⟩) sz_5 (.int .i64 ca)).setCell (p := ⟨v_3.heap.size, 2, none⟩) sz_5 (.slice B6 m6 d6)
                generalize ((v_83.setCell ⟨v_3.heap.size, 0, none⟩ (.int .i64 ow)).setCell ⟨v_3.heap.size, 1, none⟩ (.int .i64 ca)).setCell ⟨v_3.heap.size, 2, none⟩ (.slice B6 m6 d6) = U7 at *
                refine pureE (i := 12) (L := #[true, true, true, true, true, true, true, true, true, true, true, true, true]) (v := ?_) rfl (by rfl) (by kernel_rfl) (by kernel_rfl) (by kernel_rfl) (fun _ _ _ h => h) (by rfl) ?hy30 ?rest30
                case hy30 => intro w; go_simp; (try with_reducible rfl)
                try simp only [Act.put, List.setIfInBounds_toArray, List.set_cons_zero, List.set_cons_succ]
                refine doneE (by kernel_rfl) ?_ _
                go_wp2_with fail
                go_meet
                exact ⟨v_3.heap.size, B6, m6, d6, rfl, rfl, ⟨hX7, hV7.more (Nat.zero_le _) (by omega), by omega⟩, hb7⟩
            case ob_2 =>
              
              go_simp
              have b_90 := b0.alloc sz0 (.cells #[.int .i64 0, .int .i64 0, .slice none 0 0] 43)
              have sz_91 : v0.heap.size < (v0.alloc (.cells #[.int .i64 0, .int .i64 0, .slice none 0 0] 43)).heap.size := by simp
              have hG_92 := heap_alloc_last v0 (.cells #[.int .i64 0, .int .i64 0, .slice none 0 0] 43)
              generalize hw : v0.alloc (.cells #[.int .i64 0, .int .i64 0, .slice none 0 0] 43) = v_89 at *
              clear hw
              have sz_93 : w5.heap.size ≤ v_89.heap.size := by omega
              refine hK _ _ ⟨fun _ _ p hp => b_90.block p hp, ?_⟩
              clear hK K
              try simp only [Act.put, List.setIfInBounds_toArray, List.set_cons_zero, List.set_cons_succ]
              refine stepK (i := 1) (L := #[true, true, true, false, true, false, false, false, false, false, true, false, false]) rfl (by rfl) (by kernel_rfl) (by rfl) (fun K hK => ?_)
              go_simp
              have b_95 := b_90.alloc sz_93 (.cells #[] 29)
              have own_97 := own_new (base := w5.heap.size) (size := 2) (heap_alloc_last v_89 (.cells #[] 29)) sz_93
              have sz_96 : w5.heap.size ≤ (v_89.alloc (.cells #[] 29)).heap.size := by have := World.size_alloc v_89 (.cells #[] 29); omega
              have hG_98 := keepB ((Below.refl v_89.heap.size v_89).alloc (Nat.le_refl _) (.cells #[] 29)) hG_92
              have gs2 : v0.heap.size < (v_89.alloc (.cells #[] 29)).heap.size := by have := World.size_alloc v_89 (.cells #[] 29); omega
              generalize hw : v_89.alloc (.cells #[] 29) = v_94 at *
              clear hw
              refine hK _ _ ⟨fun _ _ p hp => b_95.block p hp, ?_⟩
              clear hK K
              try simp only [Act.put, List.setIfInBounds_toArray, List.set_cons_zero, List.set_cons_succ]
              refine stepK (i := 3) (L := #[true, true, true, true, true, false, false, false, false, false, true, false, false]) rfl (by rfl) (by kernel_rfl) (by rfl) (fun K hK => ?_)
              refine wp_append_rawC (.tmp 80) (.tmp 81) 22 rfl w5.heap.size 29 i0 _ 2 16 Try.underlying22 hi0 hz0 hz1 hz2 rfl (by decide) (.slice (some ⟨v_89.heap.size, 0, none⟩) 0 0) 0 [] rfl own_97 _ _ A1 n1 c1 (flatD ys) rfl (Y.below b_95 (by omega)).raw (flatD_one _) (by unfold maxLen; omega) (by omega) sz_96 ?_
              intro G1 g1 v_99 own_102 hgr_103 _
              have b_100 := b_95.grown hgr_103 sz_96 (fun q hq => (own_97.lt q hq).1)
              have sz_101 : w5.heap.size ≤ v_99.heap.size := b_100.size
              have hG_104 := keepZ hgr_103 own_97 (by decide) hG_98
              have gs_105 : v0.heap.size < v_99.heap.size := Nat.lt_of_lt_of_le gs2 hgr_103.size
              simp only [Nat.zero_add, List.nil_append] at own_102 ⊢
              refine hK _ _ ⟨fun _ _ p hp => b_100.block p hp, ?_⟩
              clear hK K
              try simp only [Act.put, List.setIfInBounds_toArray, List.set_cons_zero, List.set_cons_succ]
              refine stepK (i := 5) (L := #[true, true, true, true, true, true, false, false, false, false, true, false, false]) rfl (by rfl) (by kernel_rfl) (by rfl) (fun K hK => ?_)
              refine wp_append_rawC (.tmp 82) (.tmp 83) 22 rfl w5.heap.size 29 i0 _ 2 16 Try.underlying22 hi0 hz0 hz1 hz2 rfl (by decide) (.slice G1 n1 g1) n1 (flatD ys) rfl own_102 _ _ A2 n2 c2 (flatD zs) rfl (Z.below b_100 (by omega)).raw (flatD_one _) (by unfold maxLen; omega) (by omega) sz_101 ?_
              intro G2 g2 v_106 own_109 hgr_110 _
              have b_107 := b_100.grown hgr_110 sz_101 (fun q hq => (own_102.lt q hq).1)
              have sz_108 : w5.heap.size ≤ v_106.heap.size := b_107.size
              have hG_111 := keepZ hgr_110 own_102 (by decide) hG_104
              have gs_112 : v0.heap.size < v_106.heap.size := Nat.lt_of_lt_of_le gs_105 hgr_110.size
              refine hK _ _ ⟨fun _ _ p hp => b_107.block p hp, ?_⟩
              clear hK K
              try simp only [Act.put, List.setIfInBounds_toArray, List.set_cons_zero, List.set_cons_succ]
              have R : Descs v_106 w5.heap.size v_106.heap.size G2 (n1 + n2) (ys ++ zs) := Descs.of_own (by rw [flatD_append]; exact own_109) HWF.out (by omega)
              refine stepK (i := 6) (L := #[true, true, true, true, true, true, true, false, false, false, true, false, false]) rfl (by rfl) (by kernel_rfl) (by rfl) (fun K hK => ?_)
              go_simp
              go_at_call 31
              refine (Merge_lit v_106 ow ca A0 n0 c0 xs ((C.mem.below b_107 (by omega)).more (Nat.le_refl _) (by omega)) G2 (n1 + n2) g2 (ys ++ zs) (R.more (Nat.zero_le _) (Nat.le_refl _)) T3 HALL.out HT3.out).mono ?_
              rintro e v_113 ⟨B6, m6, d6, r6, rfl, hcd6, hb6, hlo6, hr6, V⟩
              have b_114 := b_107.trans (hb6.mono sz_108)
              have sz_115 : w5.heap.size ≤ v_113.heap.size := b_114.size
              have hG_117 := keepB hb6 hG_111
              have gs_118 : v0.heap.size < v_113.heap.size := Nat.lt_of_lt_of_le gs_112 hb6.size
              refine hK _ _ ⟨fun _ _ p hp => b_114.block p hp, ?_⟩
              clear hK K
              try simp only [Act.put, List.setIfInBounds_toArray, List.set_cons_zero, List.set_cons_succ]
              refine pureE (i := 7) (L := #[true, true, true, true, true, true, true, true, false, false, true, false, false]) (v := ?_) rfl (by rfl) (by kernel_rfl) (by kernel_rfl) (by kernel_rfl) (fun _ _ _ h => h) (by rfl) ?hy35 ?rest35
              case hy35 => intro w; go_simp; (try with_reducible rfl)
              try simp only [Act.put, List.setIfInBounds_toArray, List.set_cons_zero, List.set_cons_succ]
              refine pureE (i := 8) (L := #[true, true, true, true, true, true, true, true, true, false, true, false, false]) (v := ?_) rfl (by rfl) (by kernel_rfl) (by kernel_rfl) (by kernel_rfl) (fun _ _ _ h => h) (by rfl) ?hy36 ?rest36
              case hy36 => intro w; go_simp; (try with_reducible rfl)
              try simp only [Act.put, List.setIfInBounds_toArray, List.set_cons_zero, List.set_cons_succ]
              refine pureE (i := 9) (L := #[true, true, true, true, true, true, true, true, true, true, true, false, false]) (v := ?_) rfl (by rfl) (by kernel_rfl) (by kernel_rfl) (by kernel_rfl) (fun _ _ _ h => h) (by rfl) ?hy37 ?rest37
              case hy37 => intro w; go_simp; (try with_reducible rfl)
              try simp only [Act.put, List.setIfInBounds_toArray, List.set_cons_zero, List.set_cons_succ]
              obtain ⟨⟨z1, z2, z3⟩, z4, z5, z6⟩ := cells3 hG_117
              refine stepK (i := 11) (L := #[true, true, true, true, true, true, true, true, true, true, true, true, false]) rfl (by rfl) (by kernel_rfl) (by rfl) (fun K hK => ?_)
              go_simp
              refine hK _ _ ⟨fun h => absurd h (by decide), ?_⟩
              clear hK K z1 z2 z3 z4 z5 z6
              try simp only [Act.put, List.setIfInBounds_toArray, List.set_cons_zero, List.set_cons_succ]
              have hX7 := put3 hG_117 (.int .i64 ow) (.int .i64 ca) (.slice B6 m6 d6)
              have hV7 := far3 V (g := v0.heap.size) (fun h0 => .inl (by have := hlo6 h0; omega)) (.int .i64 ow) (.int .i64 ca) (.slice B6 m6 d6)
              have hS7 : v_113.heap.size ≤ (((v_113.setCell ⟨v0.heap.size, 0, none⟩ (.int .i64 ow)).setCell ⟨v0.heap.size, 1, none⟩ (.int .i64 ca)).setCell ⟨v0.heap.size, 2, none⟩ (.slice B6 m6 d6)).heap.size := by simp [World.setCell]
              have hb7 := ((b_114.setCell (p := ⟨v0.heap.size, 0, none⟩) sz0 (.int .i64 ow)).setCell (p := ⟨v0.heap.size, 1, none⟩) sz0 (.int .i64 ca)).setCell (p := ⟨v0.heap.size, 2, none⟩) sz0 (.slice B6 m6 d6)
              generalize ((v_113.setCell ⟨v0.heap.size, 0, none⟩ (.int .i64 ow)).setCell ⟨v0.heap.size, 1, none⟩ (.int .i64 ca)).setCell ⟨v0.heap.size, 2, none⟩ (.slice B6 m6 d6) = U7 at *
              refine pureE (i := 12) (L := #[true, true, true, true, true, true, true, true, true, true, true, true, true]) (v := ?_) rfl (by rfl) (by kernel_rfl) (by kernel_rfl) (by kernel_rfl) (fun _ _ _ h => h) (by rfl) ?hy39 ?rest39
              case hy39 => intro w; go_simp; (try with_reducible rfl)
              try simp only [Act.put, List.setIfInBounds_toArray, List.set_cons_zero, List.set_cons_succ]
              refine doneE (by kernel_rfl) ?_ _
              go_wp2_with fail
              go_meet
              exact ⟨v0.heap.size, B6, m6, d6, rfl, rfl, ⟨hX7, hV7.more (Nat.zero_le _) (by omega), by omega⟩, hb7⟩
          case rest =>
            obtain ⟨gz, B6, m6, d6, rfl, rfl, Q, hb⟩ := hcut
            obtain ⟨w7, hwc⟩ : ∃ W : World, W = wc := ⟨_, rfl⟩
            subst hwc
            have hs7 := hb.size
            replace C := C.below hb (by first | omega | (simp; done) | (simp; omega))
            replace E := E.below hb (by first | omega | (simp; done) | (simp; omega))
            replace Y := Y.below hb (by first | omega | (simp; done) | (simp; omega))
            replace Z := Z.below hb (by first | omega | (simp; done) | (simp; omega))
            replace hc := hc.trans (hb.mono (by first | omega | (simp; done) | (simp; omega)))
            clear hb k1 k2 k3 k1a mixed
            obtain ⟨k1, k2, k3⟩ := C.cells
            go_wp2_with fail
            refine (Merge_lit _ ow ca A0 n0 c0 xs (C.mem.more (by first | omega | (simp; done) | (simp; omega)) (by first | omega | (simp; done) | (simp; omega))) A2 n2 c2 zs (Z.more (by first | omega | (simp; done) | (simp; omega)) (by first | omega | (simp; done) | (simp; omega))) T2 HPZ.out HT2.out).mono ?_
            rintro e w8 ⟨B8, m8, d8, r8, rfl, hcd8, hb, _, hr8, V⟩
            have hs8 := hb.size
            (try simp at hs8)
            have C := (C.below hb (by first | omega | (simp; done) | (simp; omega))).alloc (by first | omega | (simp; done) | (simp; omega)) (.cells #[.int .i64 ow, .int .i64 ca, .slice B8 m8 d8] 43)
            have E := (E.below hb (by first | omega | (simp; done) | (simp; omega))).alloc (by first | omega | (simp; done) | (simp; omega)) (.cells #[.int .i64 ow, .int .i64 ca, .slice B8 m8 d8] 43)
            have Q := (Q.below hb (by first | omega | (simp; done) | (simp; omega))).alloc (by first | omega | (simp; done) | (simp; omega)) (.cells #[.int .i64 ow, .int .i64 ca, .slice B8 m8 d8] 43)
            have Y := (Y.below hb (by first | omega | (simp; done) | (simp; omega))).alloc (by first | omega | (simp; done) | (simp; omega)) (.cells #[.int .i64 ow, .int .i64 ca, .slice B8 m8 d8] 43)
            have Z := (Z.below hb (by first | omega | (simp; done) | (simp; omega))).alloc (by first | omega | (simp; done) | (simp; omega)) (.cells #[.int .i64 ow, .int .i64 ca, .slice B8 m8 d8] 43)
            have P_ := Cch.new (c := d8) V (by first | omega | (simp; done) | (simp; omega)) ow ca
            have hc := (hc.trans (hb.mono (by first | omega | (simp; done) | (simp; omega)))).alloc (by first | omega | (simp; done) | (simp; omega)) (.cells #[.int .i64 ow, .int .i64 ca, .slice B8 m8 d8] 43)
            clear hb V
            clear k1 k2 k3
            obtain ⟨k1, k2, k3⟩ := P_.cells
            go_wp2_with fail
            refine (Merge_lit _ ow ca B8 m8 d8 T2 (P_.mem.more (by first | omega | (simp; done) | (simp; omega)) (by first | omega | (simp; done) | (simp; omega))) A1 n1 c1 ys (Y.more (by first | omega | (simp; done) | (simp; omega)) (by first | omega | (simp; done) | (simp; omega))) T3 HQZ.out HTS.out).mono ?_
            rintro e w9 ⟨B9, m9, d9, r9, rfl, hcd9, hb, _, hr9, V⟩
            have hs9 := hb.size
            (try simp at hs9)
            have E := (E.below hb (by first | omega | (simp; done) | (simp; omega))).alloc (by first | omega | (simp; done) | (simp; omega)) (.cells #[.int .i64 ow, .int .i64 ca, .slice B9 m9 d9] 43)
            have Q := (Q.below hb (by first | omega | (simp; done) | (simp; omega))).alloc (by first | omega | (simp; done) | (simp; omega)) (.cells #[.int .i64 ow, .int .i64 ca, .slice B9 m9 d9] 43)
            have P_ := (P_.below hb (by first | omega | (simp; done) | (simp; omega))).alloc (by first | omega | (simp; done) | (simp; omega)) (.cells #[.int .i64 ow, .int .i64 ca, .slice B9 m9 d9] 43)
            have Y := (Y.below hb (by first | omega | (simp; done) | (simp; omega))).alloc (by first | omega | (simp; done) | (simp; omega)) (.cells #[.int .i64 ow, .int .i64 ca, .slice B9 m9 d9] 43)
            have Z := (Z.below hb (by first | omega | (simp; done) | (simp; omega))).alloc (by first | omega | (simp; done) | (simp; omega)) (.cells #[.int .i64 ow, .int .i64 ca, .slice B9 m9 d9] 43)
            have R_ := Cch.new (c := d9) V (by first | omega | (simp; done) | (simp; omega)) ow ca
            have hc := (hc.trans (hb.mono (by first | omega | (simp; done) | (simp; omega)))).alloc (by first | omega | (simp; done) | (simp; omega)) (.cells #[.int .i64 ow, .int .i64 ca, .slice B9 m9 d9] 43)
            clear hb V
            clear k1 k2 k3
            obtain ⟨k1, k2, k3⟩ := Q.cells
            obtain ⟨k4, k5, k6⟩ := E.cells
            go_wp2_with fail
            refine (SameC_any _ ow ca ow ca _ _ _ _ B6 B3 m6 d6 m3 d3 T3 T3 Q.mem E.mem (by first | omega | (simp; done) | (simp; omega)) (by first | omega | (simp; done) | (simp; omega)) true (by simp [sameC, Sm_refl])).mono ?_
            rintro e w10 ⟨rfl, hb⟩
            have hs10 := hb.size
            (try simp at hs10)
            have E := E.below hb (by first | omega | (simp; done) | (simp; omega))
            have R_ := R_.below hb (by first | omega | (simp; done) | (simp; omega))
            have hc := hc.trans (hb.mono (by first | omega | (simp; done) | (simp; omega)))
            clear hb k1 k2 k3 k4 k5 k6
            obtain ⟨k1, k2, k3⟩ := R_.cells
            obtain ⟨k4, k5, k6⟩ := E.cells
            go_wp2_with fail
            refine (SameC_any _ ow ca ow ca _ _ _ _ B9 B3 m9 d9 m3 d3 T3 T3 R_.mem E.mem (by first | omega | (simp; done) | (simp; omega)) (by first | omega | (simp; done) | (simp; omega)) true (by simp [sameC, Sm_refl])).mono ?_
            rintro e w11 ⟨rfl, hb⟩
            have hs11 := hb.size
            (try simp at hs11)
            have hc := hc.trans (hb.mono (by first | omega | (simp; done) | (simp; omega)))
            clear hb k1 k2 k3 k4 k5 k6
            go_wp2
            go_ret
            exact ⟨rfl, hc⟩
        · have hfb : (f != 0) = true := by simpa using hfz
          refine (Merge_not _ ow ca B2 m2 d2 T1 (D.mem.more (by first | omega | (simp; done) | (simp; omega)) (by first | omega | (simp; done) | (simp; omega))) A2 n2 c2 zs (Z.more (by first | omega | (simp; done) | (simp; omega)) (by first | omega | (simp; done) | (simp; omega))) f HMF.out hfz).mono ?_
          rintro e w3 ⟨d3, B3, rfl, hb⟩
          have hs3 := hb.size
          simp at hs3
          have C := (C.below hb (by first | omega | (simp; done) | (simp; omega))).alloc (by first | omega | (simp; done) | (simp; omega)) (.cells #[.int .i64 0, .int .i64 0, .slice B3 0 d3] 43)
          have D := (D.below hb (by first | omega | (simp; done) | (simp; omega))).alloc (by first | omega | (simp; done) | (simp; omega)) (.cells #[.int .i64 0, .int .i64 0, .slice B3 0 d3] 43)
          have Y := (Y.below hb (by first | omega | (simp; done) | (simp; omega))).alloc (by first | omega | (simp; done) | (simp; omega)) (.cells #[.int .i64 0, .int .i64 0, .slice B3 0 d3] 43)
          have Z := (Z.below hb (by first | omega | (simp; done) | (simp; omega))).alloc (by first | omega | (simp; done) | (simp; omega)) (.cells #[.int .i64 0, .int .i64 0, .slice B3 0 d3] 43)
          have hc := (hc.trans (hb.mono (by first | omega | (simp; done) | (simp; omega)))).alloc (by first | omega | (simp; done) | (simp; omega)) (.cells #[.int .i64 0, .int .i64 0, .slice B3 0 d3] 43)
          clear hb
          clear k1 k2 k3
          obtain ⟨k1, k2, k3⟩ := D.cells
          go_wp2_with fail
          refine (Merge_lit _ ow ca B2 m2 d2 T1 (D.mem.more (by first | omega | (simp; done) | (simp; omega)) (by first | omega | (simp; done) | (simp; omega))) A1 n1 c1 ys (Y.more (by first | omega | (simp; done) | (simp; omega)) (by first | omega | (simp; done) | (simp; omega))) T1 HMT.out HTW.out).mono ?_
          rintro e w4 ⟨B4, m4, d4, r4, rfl, hcd4, hb, _, hr4, V⟩
          have hs4 := hb.size
          (try simp at hs4)
          have C := (C.below hb (by first | omega | (simp; done) | (simp; omega))).alloc (by first | omega | (simp; done) | (simp; omega)) (.cells #[.int .i64 ow, .int .i64 ca, .slice B4 m4 d4] 43)
          have D := (D.below hb (by first | omega | (simp; done) | (simp; omega))).alloc (by first | omega | (simp; done) | (simp; omega)) (.cells #[.int .i64 ow, .int .i64 ca, .slice B4 m4 d4] 43)
          have Y := (Y.below hb (by first | omega | (simp; done) | (simp; omega))).alloc (by first | omega | (simp; done) | (simp; omega)) (.cells #[.int .i64 ow, .int .i64 ca, .slice B4 m4 d4] 43)
          have Z := (Z.below hb (by first | omega | (simp; done) | (simp; omega))).alloc (by first | omega | (simp; done) | (simp; omega)) (.cells #[.int .i64 ow, .int .i64 ca, .slice B4 m4 d4] 43)
          have F := Cch.new (c := d4) V (by first | omega | (simp; done) | (simp; omega)) ow ca
          have hc := (hc.trans (hb.mono (by first | omega | (simp; done) | (simp; omega)))).alloc (by first | omega | (simp; done) | (simp; omega)) (.cells #[.int .i64 ow, .int .i64 ca, .slice B4 m4 d4] 43)
          clear hb V
          clear k1 k2 k3
          obtain ⟨k1, k2, k3⟩ := D.cells
          go_wp2_with fail
          refine (SameC_any _ ow ca ow ca _ _ _ _ B4 B2 m4 d4 m2 d2 T1 T1 F.mem D.mem (by first | omega | (simp; done) | (simp; omega)) (by first | omega | (simp; done) | (simp; omega)) true (by simp [sameC, Sm_refl])).mono ?_
          rintro e w5 ⟨rfl, hb⟩
          have hs5 := hb.size
          simp at hs5
          have C := C.below hb (by first | omega | (simp; done) | (simp; omega))
          have Y := Y.below hb (by first | omega | (simp; done) | (simp; omega))
          have Z := Z.below hb (by first | omega | (simp; done) | (simp; omega))
          have hc := hc.trans (hb.mono (by first | omega | (simp; done) | (simp; omega)))
          clear hb k1 k2 k3 D F
          have hff : (f == f) = true := by simp
          go_wp2_with fail
          refine (Check_any _ _ _ A2 n2 c2 zs Z (by first | omega | (simp; done) | (simp; omega)) (by first | omega | (simp; done) | (simp; omega)) f HF.out).mono ?_
          rintro e w6 ⟨rfl, hb⟩
          have hc := hc.trans (hb.mono (by first | omega | (simp; done) | (simp; omega)))
          clear hb
          go_wp2
          go_ret
          exact ⟨rfl, hc⟩
      · have hz2 : (r != 0) = true := by simpa using hz
        refine (Merge_not _ ow ca A0 n0 c0 xs (C.mem.more (by omega) (by omega)) A1 n1 c1 ys (Y.more (by omega) (by omega)) r HR.out hz).mono ?_
        rintro e w2 ⟨d2, B2, rfl, hb⟩
        have hs2 := hb.size
        have hc := (hc.trans (hb.mono (by omega))).alloc (by omega) (.cells #[.int .i64 0, .int .i64 0, .slice B2 0 d2] 43)
        have Z := (Z.below hb (by omega)).alloc (by omega) (.cells #[.int .i64 0, .int .i64 0, .slice B2 0 d2] 43)
        have D := heap_newg w2 (.cells #[.int .i64 0, .int .i64 0, .slice B2 0 d2] 43) _ rfl
        clear hb k1 k2 k3
        obtain ⟨k1, k2, k3⟩ := (cells3 D).1
        go_wp2_with fail
        refine (Merge_not _ 0 0 B2 0 d2 [] (Descs.nil_ ..) A2 n2 c2 zs (Z.more (by omega) (by simp; omega)) 8 (mergeNull zs) (by decide)).mono ?_
        rintro e w3 ⟨d3, B3, rfl, hb⟩
        have hs3 := hb.size
        simp at hs3
        have D := heapAlloc (.cells #[.int .i64 0, .int .i64 0, .slice B3 0 d3] 43) (Below.heapOf hb (by simp) D)
        have hc := (hc.trans (hb.mono (by simp; omega))).alloc (by omega) (.cells #[.int .i64 0, .int .i64 0, .slice B3 0 d3] 43)
        clear hb k1 k2 k3
        obtain ⟨k1, k2, k3⟩ := (cells3 D).1
        go_wp2
        go_ret
        exact ⟨rfl, hc⟩
theorem cacheOnce_row (w : World) (ow ca : Int) (_ : Rng (ow, ca)) (A0 : Option Addr) (n0 c0 : Nat) (xs : List (Int × Int)) (hX : Descs w 0 w.heap.size A0 n0 xs) (_ : n0 ≤ c0) (A1 : Option Addr) (n1 c1 : Nat) (ys : List (Int × Int)) (hY : Descs w 0 w.heap.size A1 n1 ys) (_ : n1 ≤ c1) (A2 : Option Addr) (n2 c2 : Nat) (zs : List (Int × Int)) (hZ : Descs w 0 w.heap.size A2 n2 zs) (_ : n2 ≤ c2) :
    Calls Try.prog 8 #[.agg #[.int .i64 ow, .int .i64 ca, .slice A0 n0 c0], .slice A1 n1 c1, .slice A2 n2 c2] w fun e w' => e = .returned (.bool true) ∧ Below w.heap.size w w' :=
  cacheOnce_any w ow ca A0 n0 c0 xs hX A1 n1 c1 ys hY A2 n2 c2 zs hZ
end De
end Go.Proofs.Ytpjomdkcckamkaa
