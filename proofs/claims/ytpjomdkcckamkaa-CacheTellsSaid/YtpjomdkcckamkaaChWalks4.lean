/- Some neighbours by draws: a walk. -/
import Derived.Test.YtpjomdkcckamkaaChWalks3
import Derived.Maps.OwnIn
namespace Go.Proofs.Ytpjomdkcckamkaa
open Go.RowKit Go.Sort Go.Shelf
namespace De
attribute [local go_sem] Oper.semAt_some
/-- What Some answers. -/
def someC (own cap : Int) (xs : List (Int × Int)) (ds : List Int) : Int := if mayC own cap xs = true then (if 64 < ds.length then 4 else 0) else 8
def someL (own cap : Int) (xs : List (Int × Int)) (ds : List Int) : List (Int × Int) := if someC own cap xs ds = 0 then chs xs ds else []
theorem some_zero {own cap : Int} {xs : List (Int × Int)} {ds : List Int} (h : someC own cap xs ds = 0) : mayC own cap xs = true ∧ ds.length ≤ 64 := by
  unfold someC at h
  split at h
  · split at h
    · cases h
    · exact ⟨by assumption, by omega⟩
  · cases h
theorem Descs.block {w : World} {hi : Nat} {A : Option Addr} {n : Nat} {xs : List (Int × Int)} (h : Descs w 0 hi A n xs) : ∃ rb, rb ≤ hi ∧ (0 < n → rb < hi) ∧ Descs w rb (rb + 1) A n xs := by
  by_cases hn : 0 < n
  · obtain ⟨b, off, e, h1, h2, hc⟩ := h.row hn
    exact ⟨b, by omega, fun _ => h2, h.len, h.wf, h.big, fun _ => ⟨b, off, e, Nat.le_refl _, by omega, hc⟩⟩
  · exact ⟨hi, Nat.le_refl _, fun h => absurd h hn, h.len, h.wf, h.big, fun h => absurd h hn⟩
theorem Ints.block {w : World} {hi : Nat} {k : IntKind} {A : Option Addr} {n : Nat} {xs : List Int} (h : Ints w 0 hi k A n xs) : ∃ rb, rb ≤ hi ∧ (0 < n → rb < hi) ∧ Ints w rb (rb + 1) k A n xs := by
  by_cases hn : 0 < n
  · obtain ⟨b, off, e, h1, h2, hc⟩ := h.row hn
    exact ⟨b, by omega, fun _ => h2, h.len, h.wf, h.big, fun _ => ⟨b, off, e, Nat.le_refl _, by omega, hc⟩⟩
  · exact ⟨hi, Nat.le_refl _, fun h => absurd h hn, h.len, h.wf, h.big, fun h => absurd h hn⟩
/-- What Some lays first. -/
def someW (w : World) (own cap : Int) (A : Option Addr) (n c : Nat) : World := (w.alloc (.cells #[.int .i64 own, .int .i64 cap, .slice A n c] 43)).alloc (.cells #[.slice none 0 0] 22)
theorem someW_facts (w : World) (own cap : Int) (A : Option Addr) (n c : Nat) {w1 : World} (hb : Below (someW w own cap A n c).heap.size (someW w own cap A n c) w1) :
    w.heap.size + 2 ≤ w1.heap.size ∧ Below w.heap.size w w1 ∧ w1.heap[w.heap.size]? = some (.cells #[.int .i64 own, .int .i64 cap, .slice A n c] 43 (0, 0)) ∧
      w1.heap[w.heap.size + 1]? = some (.cells #[.slice none 0 0] 22 (0, 0)) := by
  unfold someW at hb
  have hs := hb.size
  simp at hs
  refine ⟨by omega, (((Below.refl w.heap.size w).alloc (Nat.le_refl _) _).alloc (by simp) _).trans (hb.mono (by simp; omega)), ?_, ?_⟩
  · exact Below.heapOf hb (by simp; omega) (heapAlloc _ (heap_newg _ _ _ rfl))
  · exact Below.heapOf hb (by simp) (heap_newg _ _ _ (by simp))

set_option maxHeartbeats 800000 in
theorem Some_bad (w : World) (own cap : Int) (A : Option Addr) (n c : Nat) (xs : List (Int × Int)) (hX : Descs w 0 w.heap.size A n xs) (B : Option Addr) (m d : Nat) (ds : List Int) (hD : Ints w 0 w.heap.size .u64 B m ds) (r : Int) (hr : someC own cap xs ds = r) (h0 : r ≠ 0) :
    Calls Try.prog 45 #[.agg #[.int .i64 own, .int .i64 cap, .slice A n c], .slice B m d] w (LstPost w [] r) := by
  have HDL := Lib.hid hD.len
  have hbd := hD.big
  unfold someC at hr
  by_cases hm : mayC own cap xs = true
  · rw [if_pos hm] at hr
    by_cases h64 : 64 < ds.length
    · rw [if_pos h64] at hr
      subst hr
      rw [HDL.out] at h64
      have h64' : (64 : Int) < m := by omega
      have hck : (if mayC own cap xs = true then (0 : Int) else 8) = 0 := if_pos hm
      have HCK := Lib.hid hck
      clear hck hm
      go_enter Try.func45, Try.ntmps45
      go_wp2_with fail
      refine (CheckC_any _ own cap A n c xs ((hX.alloc (Nat.le_refl _) _).alloc (by simp) _ |>.more (Nat.le_refl _) (by simp; omega)) 0 HCK.out).mono ?_
      rintro e w1 ⟨rfl, hb1, hp1⟩
      obtain ⟨hs1, hbb, G0, G1⟩ := someW_facts w own cap A n c hb1
      obtain ⟨m1, m2⟩ := cells1 G1
      clear hb1 G0
      go_wp2
      exact bodyPost_ret (v := .tuple #[.slice none 0 0, .int .i64 4]) (by simp [results, Try.results45, go_sem, m1]) rfl ⟨none, 0, 0, 0, rfl, Nat.le_refl _, by repeat (first | exact hbb | (refine Below.setCell ?_ (by simp; try omega) _)), fun h => absurd h (by omega), by simp [World.setCell]; omega, Descs.nil_ ..⟩
    · rw [if_neg h64] at hr
      exact absurd hr.symm h0
  · rw [if_neg hm] at hr
    subst hr
    have hck : (if mayC own cap xs = true then (0 : Int) else 8) = 8 := if_neg hm
    have HCK := Lib.hid hck
    clear hck hm
    go_enter Try.func45, Try.ntmps45
    go_wp2_with fail
    refine (CheckC_any _ own cap A n c xs ((hX.alloc (Nat.le_refl _) _).alloc (by simp) _ |>.more (Nat.le_refl _) (by simp; omega)) 8 HCK.out).mono ?_
    rintro e w1 ⟨rfl, hb1, hp1⟩
    obtain ⟨hs1, hbb, G0, G1⟩ := someW_facts w own cap A n c hb1
    obtain ⟨m1, m2⟩ := cells1 G1
    clear hb1 G0
    go_wp2
    exact bodyPost_ret (v := .tuple #[.slice none 0 0, .int .i64 8]) (by simp [results, Try.results45, go_sem, m1]) rfl ⟨none, 0, 0, 0, rfl, Nat.le_refl _, by repeat (first | exact hbb | (refine Below.setCell ?_ (by simp; try omega) _)), fun h => absurd h (by omega), by simp [World.setCell]; omega, Descs.nil_ ..⟩

/-- What the rounds of Some hold: the list so far, in memory of their own. -/
def SomeI (w : World) (gb gl : Nat) (pre : List (Int × Int)) (O : Nat → Prop) (W : World) : Prop :=
  ∃ v, Boxed W gb 22 v ∧ W.ownsRow w.heap.size 29 2 v pre.length (flatD pre) ∧ (∀ k, O k ↔ k = gb ∨ v.ownBlock = some k) ∧ v.ownBlock ≠ some gl ∧ Below w.heap.size w W

set_option maxRecDepth 100000 in
set_option maxHeartbeats 1600000 in
theorem Some_ok (w : World) (own cap : Int) (A : Option Addr) (n c : Nat) (xs : List (Int × Int)) (hX : Descs w 0 w.heap.size A n xs) (hc : n ≤ c) (B : Option Addr) (m d : Nat) (ds : List Int) (hD : Ints w 0 w.heap.size .u64 B m ds) (hr : someC own cap xs ds = 0) :
    Calls Try.prog 45 #[.agg #[.int .i64 own, .int .i64 cap, .slice A n c], .slice B m d] w (LstPost w (chs xs ds) 0) := by
  obtain ⟨hm, h64⟩ := some_zero hr
  have HDL := Lib.hid hD.len
  rw [HDL.out] at h64
  have h64' : decide ((64 : Int) < m) = false := by simp; omega
  have hck : (if mayC own cap xs = true then (0 : Int) else 8) = 0 := if_pos hm
  have HCK := Lib.hid hck
  have hms := (may_six ((mayC_iff _ _ _).1 hm)).1
  have hlx := Lib.hid hX.len
  have hwf := Lib.hid hX.wf
  have hn6 : n ≤ 6 := by rw [← hlx.out]; exact hms
  obtain ⟨i0, hi0, hz0, hz1, hz2⟩ := info_parts Try.info29
  obtain ⟨rb, x0, x1, X⟩ := Descs.block hX
  obtain ⟨db, y0, y1, Y⟩ := Ints.block hD
  clear hck hm hr hms hD
  refine (callsIn_wide (n := 5)).1 ?_
  refine callsIn_of_wp_marks Try.func45 rfl trivial ?_ rfl
  simp only [Try.ntmps45, List.size_toArray, List.length_cons, List.length_nil, Nat.reduceAdd, Nat.reduceSub, Array.replicate_succ, Array.replicate_zero, List.push_toArray, List.append_toArray, List.nil_append, List.cons_append]
  gi_wp2_with fail
  refine ⟨trivial, (callsIn_wide.2 (CheckC_any _ own cap A n c xs ((hX.alloc (Nat.le_refl _) _).alloc (by simp) _ |>.more (Nat.le_refl _) (by simp; omega)) 0 HCK.out)).mono ?_⟩
  rintro e w1 ⟨rfl, hb1, hp1⟩
  obtain ⟨hs1, hbb, G0, G1⟩ := someW_facts w own cap A n c hb1
  obtain ⟨⟨k1, k2, k3⟩, _⟩ := cells3 G0
  have X1 := keepD_of (W' := w1) X fun _ _ hc => hbb.block rb (World.block_lt_of_cell? _ _ hc)
  have Y1 := keepI_of (W' := w1) Y fun _ _ hc => hbb.block db (World.block_lt_of_cell? _ _ hc)
  clear hb1 X Y hX
  gi_wp2_with fail
  refine ⟨trivial, (callsIn_wide.2 (chosen_any _ _ _ _ _ _ _)).mono ?_⟩
  rintro e w2 ⟨rfl, rfl⟩
  gi_wp2_with fail
  obtain ⟨W0, hW0⟩ : ∃ W0, (w1.alloc (.cells #[.slice A n c] 22)).alloc (.cells #[.slice B m d] 66) = W0 := ⟨_, rfl⟩
  have hsz : W0.heap.size = w1.heap.size + 2 := by rw [← hW0]; simp
  have hB0 : Below w1.heap.size w1 W0 := by rw [← hW0]; exact ((Below.refl _ w1).alloc (Nat.le_refl _) _).alloc (by simp) _
  have hbw := hbb.trans (hB0.mono (by omega))
  have hgl : W0.heap[w1.heap.size]? = some (.cells #[.slice A n c] 22 (0, 0)) := by rw [← hW0]; exact heapAlloc _ (heap_newg _ _ _ rfl)
  have hgd : W0.heap[w1.heap.size + 1]? = some (.cells #[.slice B m d] 66 (0, 0)) := by rw [← hW0]; exact heap_newg _ _ _ (by simp)
  have XX := keepD_of (W' := W0) X1 fun _ _ hc => hB0.block rb (World.block_lt_of_cell? _ _ hc)
  have YY := keepI_of (W' := W0) Y1 fun _ _ hc => hB0.block db (World.block_lt_of_cell? _ _ hc)
  have G1' := Below.heapOf hB0 (by omega) G1
  rw [hW0]
  clear hW0 k1 k2 k3 G0 G1 X1 Y1
  refine wpIn_rangeFunc_sep (F := Fence.wide) rfl (by decide) (gf := 84) (lb := #[.pointer (some ⟨w1.heap.size + 1, 0, none⟩), .pointer (some ⟨w1.heap.size, 0, none⟩)]) rfl trivial (enters_of Try.func84 (by kernel_rfl) rfl)
    (chosen_seq _ w1.heap.size (w1.heap.size + 1) rb db A n c xs _ m d ds (by omega) (by omega) W0 hgl hgd XX YY hc (by omega) (by omega) (by omega) (by omega) (by omega)) (by omega) (fun _ => rfl)
    (SomeI w (w.heap.size + 1) w1.heap.size) (fun _ _ _ _ => False)
    (fun O s P Q row hs hg hr => by
      obtain ⟨v, h1, h2, h3, h4, h5⟩ := hs
      refine ⟨v, heap_own h1 hg (fun r e => (hr r e).2), h2.kept hg ?_, h3, h4, h5.grown hg h5.size (fun k e => by have := (hr k e).1; omega)⟩
      rcases h2.2 with ⟨e, _⟩ | ⟨g, cap, cur, e, _, hh, _⟩
      · exact .inl (by rw [e]; rfl)
      · refine .inr (fun e2 => ?_)
        rw [e] at e2
        obtain ⟨o, q1, q2⟩ := (hr g e2.symm).2
        rw [hh] at q1
        cases q1
        cases q2)
    (fun _ _ _ _ _ _ hs _ _ => hs)
    (fun s O P Q row hs hg hr => by
      obtain ⟨v, h1, h2, h3, h4, h5⟩ := hs
      refine ⟨v, heap_loose h1 hg hr (by omega), h2.kept hg ?_, h3, h4, below_loose h5 (Nat.le_refl _) hg hr (by omega)⟩
      cases row with
      | none => cases hv : v.ownBlock <;> simp
      | some r => exact .inr (by rw [hr r rfl]; exact h4))
    (fun _ _ _ _ _ _ hs _ _ => hs)
    (fun k => k = w.heap.size + 1) (fun k hk => by omega) (fun k hk => by omega)
    ⟨_, G1', World.ownsRow_nil .., fun k => by simp [Value.ownBlock], by simp [Value.ownBlock], hbw⟩
    (fun x a' W => AxD (fun Bx => { tmps := #[.agg #[.int .i64 own, .int .i64 cap, .slice A n c], .slice B m d, .pointer (some ⟨w.heap.size, 0, none⟩), undef, .pointer (some ⟨w.heap.size + 1, 0, none⟩), .int .i64 0, .int .i64 0, .pointer (some ⟨Bx, 0, none⟩),
      .agg #[.int .i64 own, .int .i64 cap, .slice A n c], .int .i64 0, .int .i64 0, .bool false, undef, .slice B m d, .int .i64 m, .bool false, .pointer (some ⟨w.heap.size, 2, none⟩), .slice A n c, .slice B m d,
      .func (.func 84) #[] #[.pointer (some ⟨w1.heap.size + 1, 0, none⟩), .pointer (some ⟨w1.heap.size, 0, none⟩)], .agg #[.int .i64 x.1, .int .i64 x.2], undef, undef, undef, undef, undef], defers := [] }) W0.heap.size x a' W)
    (fun x a' => AxD_own _ _ _ x a') ?assign ?body ?done ?stop
  case assign =>
    intro l pre x O W K hsW hi hK
    obtain ⟨v, h1, h2, h3, h4, h5⟩ := hi
    unfold encP
    gi_wp2
    exact hK _ _ ((KeepsOthers.alloc _ _).from _) (Gain.alloc _ _ _) ⟨v, heapAlloc _ h1, h2.alloc _, h3, h4, h5.alloc h5.size _⟩ ⟨W.heap.size, by omega, heap_newg _ _ _ rfl, rfl⟩
  case body =>
    rintro l pre x O a' W hsW ⟨v, h1, h2, h3, h4, h5⟩ ⟨Bx, hBx, hx, rfl⟩ hlen
    obtain ⟨⟨k1, k2⟩, _, _⟩ := cells2 hx
    have q1 := Boxed.cell h1
    have q2 := Boxed.frozen h1
    have hsW2 := h5.size
    obtain ⟨Av, cv, rfl, _, _⟩ := own_shape h2
    gi_wp2_with (gi_at_builtin; refine wpListIn_append_own_at (.alloc W _) rfl _ _ 22 rfl w.heap.size 29 i0 _ 2 16 Try.underlying22 hi0 hz0 hz1 hz2 rfl (by decide) _ _ _ rfl (h2.alloc _) ⟨W.heap.size, 0, none⟩ 1 1 (flatD [x]) rfl rfl (raw_oneD W x _).at_ (flatD_one _) (by unfold maxLen; omega) (by omega) (by simp; omega) ?_; intro v' w2 hown' hgrow _ hob; obtain ⟨g', cap', rfl⟩ := ownsRow_succ hown'; obtain ⟨hv1, hv2, hr2, hk2, hb2⟩ := Boxed.appended h1 (by decide) h2 hsW2 (by omega) hown' hgrow; have HG := Lib.hid hgrow; have HO := Lib.hid hob; clear hgrow hob; have hc1 := hv1.cell; have hf1 := hv1.frozen)
    have hgrow2 : (W.alloc (.cells #[.int .i64 x.1, .int .i64 x.2] 29)).grownBy w2 (Value.slice Av pre.length cv).ownBlock := HG.out
    have hob2 : (Value.slice (some ⟨g', 0, none⟩) (pre.length + 1) cap').ownBlock = (Value.slice Av pre.length cv).ownBlock ∨ (Value.slice (some ⟨g', 0, none⟩) (pre.length + 1) cap').ownBlock = some (W.alloc (.cells #[.int .i64 x.1, .int .i64 x.2] 29)).heap.size := HO.out
    rw [World.size_alloc] at hob2
    have hlt' := hown'.lt g' rfl
    replace hob2 : (some g' : Option Nat) = (Value.slice Av pre.length cv).ownBlock ∨ (some g' : Option Nat) = some (W.heap.size + 1) := hob2
    have hg' : g' ≠ w1.heap.size := fun e => by
      rcases hob2 with h | h
      · exact h4 (by rw [← h, e])
      · injection h with h
        omega
    refine ⟨hk2.from _, fun k => k = w.heap.size + 1 ∨ k = g', ⟨hb2.size, ?_, ?_⟩, _, hv2, by rw [List.length_append, flatD_append]; exact hr2, fun k => ?_, ?_, h5.trans hb2⟩
    · intro k cs t z hk hW
      have hk1 : k ≠ w.heap.size + 1 := fun e => hk ((h3 k).2 (.inl e))
      have hk2 : some k ≠ (Value.slice Av pre.length cv).ownBlock := fun e => hk ((h3 k).2 (.inr e.symm))
      exact (Below.heap_setCell _ _ _ _ hk1).trans ((hgrow2.block k (by have := lt_of_heap hW; simp; omega) hk2).trans ((Below.heap_alloc _ _ _ (lt_of_heap hW)).trans hW))
    · intro k hk
      rcases hk with rfl | rfl
      · exact .inl ((h3 _).2 (.inl rfl))
      · rcases hob2 with h | h
        · exact .inl ((h3 _).2 (.inr h.symm))
        · injection h with h
          exact .inr ⟨by omega, by simpa [World.setCell] using hlt'.2⟩
    · simp only [Value.ownBlock]
      exact ⟨fun h => h.imp id fun h => by rw [h], fun h => h.imp id fun h => by injection h with h; exact h.symm⟩
    · simp only [Value.ownBlock]
      exact fun h => hg' (by injection h)
  case done =>
    rintro D ys O W hD rfl ⟨v, h1, h2, h3, h4, h5⟩ hK
    obtain ⟨Av, cv, rfl, hcv, _⟩ := own_shape h2
    have q1 := Boxed.cell h1
    have q2 := Boxed.frozen h1
    gi_wp2
    have hK' := (KeepsOthers.setCell W ⟨w.heap.size + 1, 0, none⟩ (.slice Av (chs xs ds).length cv)).same D _ hK rfl
    have c1 := cells1 ((World.putObj_heap_other (o := .deferred none) (by omega : w.heap.size + 1 ≠ D)).trans (Boxed.set (.slice Av (chs xs ds).length cv) h1))
    refine ⟨by simp, .inl ⟨_, _, rfl, run_takeDeferred hK', ?_⟩⟩
    have hown2 : (W.setCell ⟨w.heap.size + 1, 0, none⟩ (.slice Av (chs xs ds).length cv)).ownsRow w.heap.size 29 2 (.slice Av (chs xs ds).length cv) (chs xs ds).length (flatD (chs xs ds)) := h2.kept (grownBy_setCell' _ _ _) (.inr (Boxed.not_row h1 (by decide) h2).symm)
    have hown3 := ownsRow_putObj hown2 (.deferred none) hK' rfl
    have hDf := Descs.of_own hown3 (fun x hx => hwf.out x (chs_sub _ _ x hx)) (by rw [chs_len]; have := HDL.out; omega)
    have hlD := lt_of_heap hK
    obtain ⟨r', u1, u2, u3⟩ := hDf.exact (Nat.le_refl _) (by simp; omega)
    refine ⟨.tuple #[.slice Av (chs xs ds).length cv, .int .i64 0], ?_, Av, _, cv, r', rfl, hcv, ?_, fun h => (u2 h).1, u1, u3⟩
    · simp [results, Try.f45, go_sem, c1.1]
    · exact (h5.setCell (by simp) _).trans (belowK_b (w := w) (Nat.le_refl _) _ D _ _ (by omega) hK' rfl rfl)
  case stop =>
    rintro D j pre O W hD hSp h hK
    exact h.elim
end De
end Go.Proofs.Ytpjomdkcckamkaa
