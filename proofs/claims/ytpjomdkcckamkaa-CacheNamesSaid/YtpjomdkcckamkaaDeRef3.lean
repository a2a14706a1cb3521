/- The reference's sorting: a walk. -/
import Derived.Test.YtpjomdkcckamkaaDeRef2
import Derived.Deep.RegionLaw
namespace Go.Proofs.Ytpjomdkcckamkaa
open Go.RowKit Go.Sort Go.Shelf
/-- append onto what the call owns, as one step of a region that draws. -/
theorem step_append_raw {P : Program} {ops : Array Oper} {o : Oper} {a : Act} {w : World} {K : Act → World → Prop} {Q : Exit → Act → World → Prop} {E : Prop} (hgd : o.guard = none) (s x : Operand) (t : TypeId)
    (ho : o.op = .call { callee := .builtin .append, args := #[s, x], argTypes := #[t, t] })
    (base : Nat) (e : TypeId) (i : TypeInfo) (z : Value) (size bytes : Nat) (ht : P.underlying t = some (.slice e)) (hi : P.info? e = some i) (hz : i.zero = some z)
    (hsize : i.size = size) (hby : i.bytes = bytes) (hzs : z.cells.size = size) (hsz : 0 < size)
    (v : Value) (n : Nat) (xs : List Value) (hs : a.eval s = v) (hown : w.ownsRow base e size v n xs)
    (lo hi' : Nat) (A : Option Addr) (m c : Nat) (news : List Value) (hx : a.eval x = .slice A m c) (hr : Raw w lo hi' A (m * size) news) (h1 : ∀ u ∈ news, u.oneCell' = true)
    (h63 : n + m ≤ maxLen) (hbytes : (n + m) * bytes ≤ 140737488355328) (hbase : base ≤ w.heap.size)
    (h : ∀ A' c' w', w'.ownsRow base e size (.slice A' (n + m) c') (n + m) (xs ++ news) → w.grownBy w' v.ownBlock → ((Value.slice A' (n + m) c').ownBlock = v.ownBlock ∨ (Value.slice A' (n + m) c').ownBlock = some w.heap.size) →
      K (a.put o.dst (.slice A' (n + m) c')) w') :
    if Region.wanted o (yielded ops a.tmps) = true then Oper.wp P o a w K Q else E := by
  have hw : Region.wanted o (yielded ops a.tmps) = true := by simp [Region.wanted, hgd]
  rw [if_pos hw]
  obtain ⟨A', c', w', hr, h2, h3, h5⟩ := run_append_raw (P := P) w base t o.type e i z size bytes ht hi hz hsize hby hzs hsz v n xs hown lo hi' A m c news hr h1 h63 hbytes hbase
  unfold Oper.wp execOp
  simp only [ho, resolve, invoke, builtin, Sem.run_bind, Sem.run_pure, Result.andThen_ok, List.map_toArray, List.map_cons, List.map_nil, hs, hx, hr]
  exact h A' c' w' h2 h3 h5
theorem own_mono {w : World} {base base' : Nat} {e : TypeId} {size n : Nat} {v : Value} {xs : List Value} (h : w.ownsRow base e size v n xs) (hb : base' ≤ base) : w.ownsRow base' e size v n xs := by
  obtain ⟨h1, h2⟩ := h
  refine ⟨h1, ?_⟩
  rcases h2 with h2 | ⟨g, cap, cur, hv, hg, rest⟩
  · exact .inl h2
  · exact .inr ⟨g, cap, cur, hv, by omega, rest⟩
theorem heap_newg (w : World) (o : Obj) (g : Nat) (h : g = w.heap.size) : (w.alloc o).heap[g]? = some o := by
  subst h
  exact heap_alloc_new w o
theorem own_new {w : World} {base g : Nat} {e : TypeId} {size : Nat} (h : w.heap[g]? = some (.cells #[] e (0, 0))) (hb : base ≤ g) : w.ownsRow base e size (.slice (some ⟨g, 0, none⟩) 0 0) 0 [] :=
  ⟨by simp, .inr ⟨g, 0, #[], rfl, hb, h, by simp, by simp [maxLen], by simp, by simp⟩⟩
namespace De
theorem raw_oneDg (w : World) (g : Nat) (x : Int × Int) (t : TypeId) (h : w.heap[g]? = some (.cells #[.int .i64 x.1, .int .i64 x.2] t (0, 0))) : Raw w g (g + 1) (some ⟨g, 0, none⟩) (1 * 2) (flatD [x]) := by
  refine ⟨rfl, fun _ => ⟨g, 0, rfl, Nat.le_refl _, by omega, fun j hj => ?_⟩⟩
  rw [cell_of_row w g _ _ _ _ h]
  refine ⟨?_, frozen_of_row w g _ _ _ h⟩
  obtain rfl | rfl : j = 0 ∨ j = 1 := by omega
  · rfl
  · rfl
theorem ins_at (d : Int × Int) : ∀ (l : List (Int × Int)) (a : Nat), a ≤ l.length → (∀ j, j < a → ltB d (l[j]?.getD (0, 0)) = false) → (a = l.length ∨ ltB d (l[a]?.getD (0, 0)) = true) → ins d l = l.take a ++ d :: l.drop a
  | [], a, h, _, _ => by
    obtain rfl : a = 0 := by simpa using h
    rfl
  | x :: l, 0, _, _, h => by
    have h' := h.resolve_left (by simp)
    simp only [List.getElem?_cons_zero, Option.getD_some] at h'
    simp [ins, h']
  | x :: l, a + 1, hl, hn, h => by
    have h0 := hn 0 (by omega)
    simp only [List.getElem?_cons_zero, Option.getD_some] at h0
    simp only [ins, h0, List.take_succ_cons, List.drop_succ_cons, List.cons_append]
    rw [ins_at d l a (by simpa using hl) (fun j hj => by simpa using hn (j + 1) (by omega)) (by simpa using h)]
    rfl
theorem ins_len (d : Int × Int) (l : List (Int × Int)) : (ins d l).length = l.length + 1 := by rw [(ins_perm d l).length_eq]; rfl
theorem srt_snoc (xs : List (Int × Int)) {k : Nat} (hk : k < xs.length) : srt (xs.take (k + 1)) = ins (xs[k]?.getD (0, 0)) (srt (xs.take k)) := by
  rw [List.take_succ_eq_append_getElem hk, List.getElem?_eq_getElem hk]
  unfold srt
  rw [List.foldl_append]
  rfl

set_option maxHeartbeats 3200000 in
set_option maxRecDepth 100000 in
/-- headcountref07.Sorted. -/
theorem SortedR_any (w : World) (lo hi : Nat) (A : Option Addr) (n c : Nat) (xs : List (Int × Int)) (hX : Descs w lo hi A n xs) (hhi : hi ≤ w.heap.size) (hn : n ≤ 1000000) :
    Calls Try.prog 65 #[.slice A n c] w fun e w' => ∃ A' c', e = .returned (.slice A' n c') ∧ n ≤ c' ∧ Below w.heap.size w w' ∧ Descs w' w.heap.size w'.heap.size A' n (srt xs) := by
  have HL := Lib.hid hX.len
  have mixed : Try.prog.follows .mixedOrders = true := by kernel_rfl
  obtain ⟨i0, hi0, hz0, hz1, hz2⟩ := info_parts Try.info29
  go_enter Try.func65, Try.ntmps65
  go_wp2
  go_loopw [3, 4, 5] (fun v iv _ wr => ∃ i : Nat, iv = .int .i64 i ∧ i ≤ n ∧ wr.ownsRow w.heap.size 29 2 v i (flatD (srt (xs.take i))) ∧ Below w.heap.size w wr)
    (fun _ iv _ _ => n - (intOf iv).toNat)
  case atStart => exact ⟨0, rfl, Nat.zero_le _, World.ownsRow_nil _ _ _ _, Below.refl _ _⟩
  case round =>
    obtain ⟨i, rfl, hi', hown, hnx⟩ := hrel
    obtain ⟨Av, cv, rfl, hcv, _⟩ := own_shape hown
    have hsz := hnx.size
    by_cases hlt : i < n
    · obtain ⟨b, off, rfl, h1, h2, hc⟩ := (hX.below hnx hhi).row (by omega)
      obtain ⟨⟨g1, _⟩, g3, _⟩ := hc i hlt
      have hsn := srt_snoc xs (k := i) (by rw [HL.out]; exact hlt)
      have hrng := hX.at_ i
      clear hc
      generalize hz : xs[i]?.getD (0, 0) = z at g1 g3 hsn hrng
      obtain ⟨z1, z2⟩ := z
      have hwf : ∀ x ∈ srt (xs.take i), Rng x := fun x hx => hX.wf x (List.mem_of_mem_take (srt_mem.1 hx))
      have hDo := Descs.of_own hown hwf (by omega)
      generalize hout : srt (xs.take i) = out at hown hsn hwf hDo
      have hol : out.length = i := hDo.len
      have HOL := Lib.hid hol
      have HSN := Lib.hid hsn
      have hin : (i : Int) < n := by omega
      have hi0' : (0 : Int) ≤ i := by omega
      clear hz hout hol hsn
      obtain ⟨wo, rfl⟩ : ∃ wo : World, wo = wr := ⟨_, rfl⟩
      go_wp2
      go_loopw [5] (fun av ww => ∃ a : Nat, av = .int .i64 a ∧ a ≤ i ∧ Hid (∀ j, j < a → ltB (z1, z2) (out[j]?.getD (0, 0)) = false) ∧ Gr wo ww) (fun av _ => i - (intOf av).toNat)
      case atStart => exact ⟨0, rfl, Nat.zero_le _, fun j hj => absurd hj (by omega), Gr.refl _⟩
      case round =>
        obtain ⟨a, rfl, ha, hall, hg⟩ := hrel
        have hDw := hDo.gr hg (Nat.le_refl _)
        have hsw := hg.below.size
        have k1 := Below.keepCell hg.below (show b < wo.heap.size by omega) g1
        have k2 := Below.keepCell hg.below (show b < wo.heap.size by omega) g3
        have ha0 : (0 : Int) ≤ a := by omega
        have hac : (a : Int) ≤ cv := by omega
        by_cases hai : a < i
        · obtain ⟨gb, rfl⟩ : ∃ gb, Av = some ⟨gb, 0, none⟩ := by
            rcases hown.2 with ⟨h3, _⟩ | ⟨gb, cap, cur, hv, _⟩
            · injection h3 with _ h4 h5
              omega
            · injection hv with hv
              exact ⟨gb, hv⟩
          obtain ⟨gb', off', e, _, hgb, hcell⟩ := hDw.row (by omega)
          injection e with e
          injection e with e1 e2
          subst e1
          subst e2
          obtain ⟨⟨p1, _⟩, p3, _⟩ := hcell a hai
          have hia : (a : Int) < i := by omega
          have hzo : ∀ m os, (grow (wr.drewN m) os).cell? ⟨b, off + i * 2, none⟩ = some (.int .i64 z1) := fun m os => cell_grown (by show b < wr.heap.size; omega) k1 m os
          have hzp : ∀ m os, (grow (wr.drewN m) os).cell? ⟨b, off + i * 2 + 1, none⟩ = some (.int .i64 z2) := fun m os => cell_grown (by show b < wr.heap.size; omega) k2 m os
          generalize hy : out[a]?.getD (0, 0) = y at p1 p3
          obtain ⟨y1, y2⟩ := y
          have hyo : ∀ m os, (grow (wr.drewN m) os).cell? ⟨gb, 0 + a * 2, none⟩ = some (.int .i64 y1) := fun m os => cell_grown (by show gb < wr.heap.size; omega) p1 m os
          have hyp : ∀ m os, (grow (wr.drewN m) os).cell? ⟨gb, 0 + a * 2 + 1, none⟩ = some (.int .i64 y2) := fun m os => cell_grown (by show gb < wr.heap.size; omega) p3 m os
          have HY := Lib.hid hy
          have hz0 : (0 : Nat) + a * 2 = a * 2 := Nat.zero_add _
          rw [hz0] at hyo hyp
          clear hy hcell p1 p3 hz0
          cases hlt2 : ltB (z1, z2) (y1, y2) with
          | false =>
            have HLT := Lib.hid hlt2
            have hall2 : Hid (∀ j, j < a + 1 → ltB (z1, z2) (out[j]?.getD (0, 0)) = false) := fun j hj => by
              by_cases e : j = a
              · subst e
                rw [HY.out]
                exact HLT.out
              · exact hall.out j (by omega)
            clear hlt2 hall HY
            go_wp2_with fail
            go_quiet_grown ((go_at_call 68; with_reducible exact Calls.gr (Ahead_g _ z1 z2 y1 y2 false HLT.out)))
            dsimp only
            generalize hw : grow (wr.drewN nq) osq = wr2
            have hg2 := hg.trans ⟨nq, osq, hw.symm⟩
            clear hw hzo hzp hyo hyp
            go_wp2
            go_roundw
            case rel => exact ⟨a + 1, by go_num, by omega, hall2, hg2⟩
            case measure => simp [intOf]; omega
          | true =>
            have HLT := Lib.hid hlt2
            have hins := ins_at (z1, z2) out a (by rw [HOL.out]; omega) hall.out (.inr (by rw [HY.out]; exact hlt2))
            have HINS := Lib.hid hins
            clear hlt2 hall HY hins
            go_wp2_with fail
            go_quiet_grown ((go_at_call 68; with_reducible exact Calls.gr (Ahead_g _ z1 z2 y1 y2 true HLT.out)))
            dsimp only
            generalize hww : grow (wr.drewN nq) osq = ww2
            have hgw : Gr wr ww2 := ⟨nq, osq, hww.symm⟩
            have hg2 := hg.trans hgw
            have hs2 := hg2.below.size
            have l1 : ww2.cell? ⟨b, off + i * 2, none⟩ = some (.int .i64 z1) := by rw [← hww]; exact hzo nq osq
            have l2 : ww2.cell? ⟨b, off + i * 2 + 1, none⟩ = some (.int .i64 z2) := by rw [← hww]; exact hzp nq osq
            have hT := hDw.gr hgw hsw
            have hT1 := (hT.take_ (m := a) ha).more (lo' := w.heap.size) (hi' := ww2.heap.size) (Nat.le_refl _) hs2
            have hT2 := (hT.drop_ ha).more (lo' := w.heap.size) (hi' := ww2.heap.size) (Nat.le_refl _) hs2
            have hadd : (⟨gb, 0, none⟩ : Addr).add (a * 2) = ⟨gb, a * 2, none⟩ := by unfold Addr.add; split <;> simp_all
            rw [hadd] at hT2
            have la1 : ∀ o, (ww2.alloc o).cell? ⟨b, off + i * 2, none⟩ = some (.int .i64 z1) := fun o => (World.cell?_alloc_lt _ _ _ (show b < ww2.heap.size by omega)).trans l1
            have la2 : ∀ o, (ww2.alloc o).cell? ⟨b, off + i * 2 + 1, none⟩ = some (.int .i64 z2) := fun o => (World.cell?_alloc_lt _ _ _ (show b < ww2.heap.size by omega)).trans l2
            have hac2 : (a : Int) < cv := by omega
            have hac3 : ¬ (cv : Int) = a := by omega
            have hac4 : ¬ cv = a := by omega
            clear hww hgw k1 k2 hDw hT hg hzo hzp hyo hyp hadd HLT
            go_wp2_with fail
            go_region_law (first
              | (refine step_append_raw (by rfl) (.tmp 30) (.tmp 33) 22 (by rfl) ww2.heap.size 29 i0 _ 2 16 Try.underlying22 hi0 hz0 hz1 hz2 (by rfl) (by decide) _ _ _ (by rfl) (own_new (by first | exact heap_newg _ _ _ (by simp) | exact (Below.heap_alloc _ _ _ (by simp)).trans (heap_newg _ _ _ (by simp))) (by first | omega | (simp; done) | (simp; omega))) _ _ _ a _ (flatD (out.take a)) (by rfl) (hT1.below (by repeat (first | exact Below.refl _ _ | assumption | (refine Below.drew ?_) | (refine Below.alloc ?_ (by first | omega | (simp; done) | (simp; omega)) _))) (Nat.le_refl _)).raw (flatD_one _) (by unfold maxLen; omega) (by omega) (by first | omega | (simp; done) | (simp; omega)) ?_; intro A1 d1 u1 hown1 hgr1 _; (try simp only [Nat.zero_add, List.nil_append] at hown1); have hb1 : Below ww2.heap.size ww2 u1 := Below.grown (by repeat (first | exact Below.refl _ _ | assumption | (refine Below.drew ?_) | (refine Below.alloc ?_ (by first | omega | (simp; done) | (simp; omega)) _))) hgr1 (by first | omega | (simp; done) | (simp; omega)) (fun q hq => by simp [Value.ownBlock] at hq; omega); have m1 := Below.keepCell hb1 (show b < ww2.heap.size by omega) l1; have m2 := Below.keepCell hb1 (show b < ww2.heap.size by omega) l2; have hs1 := hb1.size; (try have hX1 : u1.heap[ww2.heap.size + 1]? = some (.cells #[.int .i64 z1, .int .i64 z2] 29 (0, 0)) := (hgr1.block _ (by simp) (by simp [Value.ownBlock])).trans (heap_newg _ _ _ (by simp))); (try have hX0 : u1.heap[ww2.heap.size]? = some (.cells #[.int .i64 z1, .int .i64 z2] 29 (0, 0)) := (hgr1.block _ (by simp; try omega) (by simp [Value.ownBlock])).trans ((Below.heap_alloc _ _ _ (by simp)).trans (heap_newg _ _ _ (by simp)))); clear hgr1)
              | (refine step_append_raw (by rfl) (.tmp 34) (.tmp 39) 22 (by rfl) ww2.heap.size 29 i0 _ 2 16 Try.underlying22 hi0 hz0 hz1 hz2 (by rfl) (by decide) _ _ _ (by rfl) (by first | exact hown1 | exact hown1.alloc _) _ _ _ 1 _ (flatD [(z1, z2)]) (by rfl) (raw_oneDg _ _ (z1, z2) 29 (by first | exact heap_newg _ _ _ (by simp) | assumption)) (flatD_one _) (by unfold maxLen; omega) (by omega) (by first | omega | (simp; done) | (simp; omega)) ?_; intro A2 d2 u2 hown2 hgr2 _; have hb2 : Below ww2.heap.size ww2 u2 := Below.grown (by repeat (first | exact Below.refl _ _ | assumption | (refine Below.drew ?_) | (refine Below.alloc ?_ (by first | omega | (simp; done) | (simp; omega)) _))) hgr2 (by first | omega | (simp; done) | (simp; omega)) (fun q hq => (hown1.lt q hq).1); have hs2 := hb2.size; clear hgr2 hb1 m1 m2 hs1 hown1)
              | (refine step_append_raw (by rfl) (.tmp 40) (.tmp 43) 22 (by rfl) ww2.heap.size 29 i0 _ 2 16 Try.underlying22 hi0 hz0 hz1 hz2 (by rfl) (by decide) _ _ _ (by rfl) hown2 _ _ _ (i - a) _ (flatD (out.drop a)) (by rfl) (hT2.below (by repeat (first | exact Below.refl _ _ | assumption | (refine Below.drew ?_) | (refine Below.alloc ?_ (by first | omega | (simp; done) | (simp; omega)) _))) (Nat.le_refl _)).raw (flatD_one _) (by unfold maxLen; omega) (by omega) (by first | omega | (simp; done) | (simp; omega)) ?_; intro A3 d3 u3 hown3 hgr3 _; have hb3 : Below ww2.heap.size ww2 u3 := Below.grown (by repeat (first | exact Below.refl _ _ | assumption | (refine Below.drew ?_) | (refine Below.alloc ?_ (by first | omega | (simp; done) | (simp; omega)) _))) hgr3 (by first | omega | (simp; done) | (simp; omega)) (fun q hq => (hown2.lt q hq).1); clear hgr3 hb2 hs2 hown2))
            all_goals
              have hfin : u3.ownsRow w.heap.size 29 2 (.slice A3 (i + 1) d3) (i + 1) (flatD (srt (xs.take (i + 1)))) := by
                have h0 := own_mono hown3 (show w.heap.size ≤ ww2.heap.size by omega)
                have e : out.take a ++ (z1, z2) :: out.drop a = out.take a ++ [(z1, z2)] ++ out.drop a := by simp
                rw [HSN.out, HINS.out, e, flatD_append, flatD_append]
                have e2 : a + 1 + (i - a) = i + 1 := by omega
                rw [e2] at h0
                exact h0
              have hbf : Below w.heap.size w u3 := (hnx.trans (hg2.below.mono (by omega))).trans (hb3.mono (by omega))
              clear hown3 hb3
              (try have hE : a + 1 + (i - a) = i + 1 := by omega)
              go_wp2
              (try rw [hE])
              (try clear hE)
              go_roundw
              case rel => exact ⟨i + 1, by go_num, by omega, hfin, hbf⟩
              case measure => simp [intOf]; omega
        · obtain rfl : a = i := by omega
          have hins := ins_at (z1, z2) out a (by rw [HOL.out]; exact Nat.le_refl _) hall.out (.inl HOL.out.symm)
          have HINS := Lib.hid hins
          clear hins hall g1 g3 hDo
          go_wp2
          go_quiet (fail)
          generalize hww : wr.drewN nq = ww2
          have hg2 : Gr wo ww2 := by rw [← hww]; exact hg.drewN _
          have hs2 := hg2.below.size
          have l1 : ww2.cell? ⟨b, off + a * 2, none⟩ = some (.int .i64 z1) := by rw [← hww]; exact k1
          have l2 : ww2.cell? ⟨b, off + a * 2 + 1, none⟩ = some (.int .i64 z2) := by rw [← hww]; exact k2
          have hT : Descs ww2 w.heap.size wo.heap.size Av a out := by rw [← hww]; exact hDw.drewN _
          have hT1 := (hT.take_ (m := a) (Nat.le_refl _)).more (lo' := w.heap.size) (hi' := ww2.heap.size) (Nat.le_refl _) hs2
          have hdr0 : out.drop a = [] := List.drop_eq_nil_of_le (by rw [HOL.out]; exact Nat.le_refl _)
          have hT2 : ∀ Ad, Descs ww2 w.heap.size ww2.heap.size Ad 0 (out.drop a) := fun Ad => by rw [hdr0]; exact Descs.nil_ ..
          have la1 : ∀ o, (ww2.alloc o).cell? ⟨b, off + a * 2, none⟩ = some (.int .i64 z1) := fun o => (World.cell?_alloc_lt _ _ _ (show b < ww2.heap.size by omega)).trans l1
          have la2 : ∀ o, (ww2.alloc o).cell? ⟨b, off + a * 2 + 1, none⟩ = some (.int .i64 z2) := fun o => (World.cell?_alloc_lt _ _ _ (show b < ww2.heap.size by omega)).trans l2
          clear hww k1 k2 hDw hT hg hdr0
          by_cases hca : cv = a
          · obtain rfl : a = cv := hca.symm
            go_wp2_with fail
            go_region_law (first
              | (refine step_append_raw (by rfl) (.tmp 30) (.tmp 33) 22 (by rfl) ww2.heap.size 29 i0 _ 2 16 Try.underlying22 hi0 hz0 hz1 hz2 (by rfl) (by decide) _ _ _ (by rfl) (own_new (by first | exact heap_newg _ _ _ (by simp) | exact (Below.heap_alloc _ _ _ (by simp)).trans (heap_newg _ _ _ (by simp))) (by first | omega | (simp; done) | (simp; omega))) _ _ _ a _ (flatD (out.take a)) (by rfl) (hT1.below (by repeat (first | exact Below.refl _ _ | assumption | (refine Below.drew ?_) | (refine Below.alloc ?_ (by first | omega | (simp; done) | (simp; omega)) _))) (Nat.le_refl _)).raw (flatD_one _) (by unfold maxLen; omega) (by omega) (by first | omega | (simp; done) | (simp; omega)) ?_; intro A1 d1 u1 hown1 hgr1 _; (try simp only [Nat.zero_add, List.nil_append] at hown1); have hb1 : Below ww2.heap.size ww2 u1 := Below.grown (by repeat (first | exact Below.refl _ _ | assumption | (refine Below.drew ?_) | (refine Below.alloc ?_ (by first | omega | (simp; done) | (simp; omega)) _))) hgr1 (by first | omega | (simp; done) | (simp; omega)) (fun q hq => by simp [Value.ownBlock] at hq; omega); have m1 := Below.keepCell hb1 (show b < ww2.heap.size by omega) l1; have m2 := Below.keepCell hb1 (show b < ww2.heap.size by omega) l2; have hs1 := hb1.size; (try have hX1 : u1.heap[ww2.heap.size + 1]? = some (.cells #[.int .i64 z1, .int .i64 z2] 29 (0, 0)) := (hgr1.block _ (by simp) (by simp [Value.ownBlock])).trans (heap_newg _ _ _ (by simp))); (try have hX0 : u1.heap[ww2.heap.size]? = some (.cells #[.int .i64 z1, .int .i64 z2] 29 (0, 0)) := (hgr1.block _ (by simp; try omega) (by simp [Value.ownBlock])).trans ((Below.heap_alloc _ _ _ (by simp)).trans (heap_newg _ _ _ (by simp)))); clear hgr1)
              | (refine step_append_raw (by rfl) (.tmp 34) (.tmp 39) 22 (by rfl) ww2.heap.size 29 i0 _ 2 16 Try.underlying22 hi0 hz0 hz1 hz2 (by rfl) (by decide) _ _ _ (by rfl) (by first | exact hown1 | exact hown1.alloc _) _ _ _ 1 _ (flatD [(z1, z2)]) (by rfl) (raw_oneDg _ _ (z1, z2) 29 (by first | exact heap_newg _ _ _ (by simp) | assumption)) (flatD_one _) (by unfold maxLen; omega) (by omega) (by first | omega | (simp; done) | (simp; omega)) ?_; intro A2 d2 u2 hown2 hgr2 _; have hb2 : Below ww2.heap.size ww2 u2 := Below.grown (by repeat (first | exact Below.refl _ _ | assumption | (refine Below.drew ?_) | (refine Below.alloc ?_ (by first | omega | (simp; done) | (simp; omega)) _))) hgr2 (by first | omega | (simp; done) | (simp; omega)) (fun q hq => (hown1.lt q hq).1); have hs2 := hb2.size; clear hgr2 hb1 m1 m2 hs1 hown1)
              | (refine step_append_raw (by rfl) (.tmp 40) (.tmp 43) 22 (by rfl) ww2.heap.size 29 i0 _ 2 16 Try.underlying22 hi0 hz0 hz1 hz2 (by rfl) (by decide) _ _ _ (by rfl) hown2 _ _ _ 0 _ (flatD (out.drop a)) (by rfl) ((hT2 _).below (by repeat (first | exact Below.refl _ _ | assumption | (refine Below.drew ?_) | (refine Below.alloc ?_ (by first | omega | (simp; done) | (simp; omega)) _))) (Nat.le_refl _)).raw (flatD_one _) (by unfold maxLen; omega) (by omega) (by first | omega | (simp; done) | (simp; omega)) ?_; intro A3 d3 u3 hown3 hgr3 _; have hb3 : Below ww2.heap.size ww2 u3 := Below.grown (by repeat (first | exact Below.refl _ _ | assumption | (refine Below.drew ?_) | (refine Below.alloc ?_ (by first | omega | (simp; done) | (simp; omega)) _))) hgr3 (by first | omega | (simp; done) | (simp; omega)) (fun q hq => (hown2.lt q hq).1); clear hgr3 hb2 hs2 hown2))
            all_goals
              have hfin : u3.ownsRow w.heap.size 29 2 (.slice A3 (a + 1) d3) (a + 1) (flatD (srt (xs.take (a + 1)))) := by
                have h0 := own_mono hown3 (show w.heap.size ≤ ww2.heap.size by omega)
                have e : out.take a ++ (z1, z2) :: out.drop a = out.take a ++ [(z1, z2)] ++ out.drop a := by simp
                rw [HSN.out, HINS.out, e, flatD_append, flatD_append]
                have e2 : a + 1 + 0 = a + 1 := by omega
                rw [e2] at h0
                exact h0
              have hbf : Below w.heap.size w u3 := (hnx.trans (hg2.below.mono (by omega))).trans (hb3.mono (by omega))
              clear hown3 hb3
              (try have hE : a + 1 + 0 = a + 1 := by omega)
              go_wp2
              (try rw [hE])
              (try clear hE)
              go_roundw
              case rel => exact ⟨a + 1, by go_num, by omega, hfin, hbf⟩
              case measure => simp [intOf]; omega
          · obtain ⟨gb, rfl⟩ : ∃ gb, Av = some ⟨gb, 0, none⟩ := by
              rcases hown.2 with ⟨h3, _⟩ | ⟨gb, cap, cur, hv, _⟩
              · injection h3 with _ h4 h5
                omega
              · injection hv with hv
                exact ⟨gb, hv⟩
            have hac2 : (a : Int) < cv := by omega
            have hac3 : ¬ (cv : Int) = a := by omega
            go_wp2_with fail
            go_region_law (first
              | (refine step_append_raw (by rfl) (.tmp 30) (.tmp 33) 22 (by rfl) ww2.heap.size 29 i0 _ 2 16 Try.underlying22 hi0 hz0 hz1 hz2 (by rfl) (by decide) _ _ _ (by rfl) (own_new (by first | exact heap_newg _ _ _ (by simp) | exact (Below.heap_alloc _ _ _ (by simp)).trans (heap_newg _ _ _ (by simp))) (by first | omega | (simp; done) | (simp; omega))) _ _ _ a _ (flatD (out.take a)) (by rfl) (hT1.below (by repeat (first | exact Below.refl _ _ | assumption | (refine Below.drew ?_) | (refine Below.alloc ?_ (by first | omega | (simp; done) | (simp; omega)) _))) (Nat.le_refl _)).raw (flatD_one _) (by unfold maxLen; omega) (by omega) (by first | omega | (simp; done) | (simp; omega)) ?_; intro A1 d1 u1 hown1 hgr1 _; (try simp only [Nat.zero_add, List.nil_append] at hown1); have hb1 : Below ww2.heap.size ww2 u1 := Below.grown (by repeat (first | exact Below.refl _ _ | assumption | (refine Below.drew ?_) | (refine Below.alloc ?_ (by first | omega | (simp; done) | (simp; omega)) _))) hgr1 (by first | omega | (simp; done) | (simp; omega)) (fun q hq => by simp [Value.ownBlock] at hq; omega); have m1 := Below.keepCell hb1 (show b < ww2.heap.size by omega) l1; have m2 := Below.keepCell hb1 (show b < ww2.heap.size by omega) l2; have hs1 := hb1.size; (try have hX1 : u1.heap[ww2.heap.size + 1]? = some (.cells #[.int .i64 z1, .int .i64 z2] 29 (0, 0)) := (hgr1.block _ (by simp) (by simp [Value.ownBlock])).trans (heap_newg _ _ _ (by simp))); (try have hX0 : u1.heap[ww2.heap.size]? = some (.cells #[.int .i64 z1, .int .i64 z2] 29 (0, 0)) := (hgr1.block _ (by simp; try omega) (by simp [Value.ownBlock])).trans ((Below.heap_alloc _ _ _ (by simp)).trans (heap_newg _ _ _ (by simp)))); clear hgr1)
              | (refine step_append_raw (by rfl) (.tmp 34) (.tmp 39) 22 (by rfl) ww2.heap.size 29 i0 _ 2 16 Try.underlying22 hi0 hz0 hz1 hz2 (by rfl) (by decide) _ _ _ (by rfl) (by first | exact hown1 | exact hown1.alloc _) _ _ _ 1 _ (flatD [(z1, z2)]) (by rfl) (raw_oneDg _ _ (z1, z2) 29 (by first | exact heap_newg _ _ _ (by simp) | assumption)) (flatD_one _) (by unfold maxLen; omega) (by omega) (by first | omega | (simp; done) | (simp; omega)) ?_; intro A2 d2 u2 hown2 hgr2 _; have hb2 : Below ww2.heap.size ww2 u2 := Below.grown (by repeat (first | exact Below.refl _ _ | assumption | (refine Below.drew ?_) | (refine Below.alloc ?_ (by first | omega | (simp; done) | (simp; omega)) _))) hgr2 (by first | omega | (simp; done) | (simp; omega)) (fun q hq => (hown1.lt q hq).1); have hs2 := hb2.size; clear hgr2 hb1 m1 m2 hs1 hown1)
              | (refine step_append_raw (by rfl) (.tmp 40) (.tmp 43) 22 (by rfl) ww2.heap.size 29 i0 _ 2 16 Try.underlying22 hi0 hz0 hz1 hz2 (by rfl) (by decide) _ _ _ (by rfl) hown2 _ _ _ 0 _ (flatD (out.drop a)) (by rfl) ((hT2 _).below (by repeat (first | exact Below.refl _ _ | assumption | (refine Below.drew ?_) | (refine Below.alloc ?_ (by first | omega | (simp; done) | (simp; omega)) _))) (Nat.le_refl _)).raw (flatD_one _) (by unfold maxLen; omega) (by omega) (by first | omega | (simp; done) | (simp; omega)) ?_; intro A3 d3 u3 hown3 hgr3 _; have hb3 : Below ww2.heap.size ww2 u3 := Below.grown (by repeat (first | exact Below.refl _ _ | assumption | (refine Below.drew ?_) | (refine Below.alloc ?_ (by first | omega | (simp; done) | (simp; omega)) _))) hgr3 (by first | omega | (simp; done) | (simp; omega)) (fun q hq => (hown2.lt q hq).1); clear hgr3 hb2 hs2 hown2))
            all_goals
              have hfin : u3.ownsRow w.heap.size 29 2 (.slice A3 (a + 1) d3) (a + 1) (flatD (srt (xs.take (a + 1)))) := by
                have h0 := own_mono hown3 (show w.heap.size ≤ ww2.heap.size by omega)
                have e : out.take a ++ (z1, z2) :: out.drop a = out.take a ++ [(z1, z2)] ++ out.drop a := by simp
                rw [HSN.out, HINS.out, e, flatD_append, flatD_append]
                have e2 : a + 1 + 0 = a + 1 := by omega
                rw [e2] at h0
                exact h0
              have hbf : Below w.heap.size w u3 := (hnx.trans (hg2.below.mono (by omega))).trans (hb3.mono (by omega))
              clear hown3 hb3
              (try have hE : a + 1 + 0 = a + 1 := by omega)
              go_wp2
              (try rw [hE])
              (try clear hE)
              go_roundw
              case rel => exact ⟨a + 1, by go_num, by omega, hfin, hbf⟩
              case measure => simp [intOf]; omega
    · obtain rfl : i = n := by omega
      rw [List.take_of_length_le (by rw [HL.out]; exact Nat.le_refl _)] at hown
      have hD := Descs.of_own hown (fun x hx => hX.wf x (srt_mem.1 hx)) (by omega)
      have HD := Lib.hid hD
      clear hown hD
      go_wp2
      go_ret
      exact ⟨Av, cv, rfl, hcv, hnx, HD.out⟩
end De
end Go.Proofs.Ytpjomdkcckamkaa
