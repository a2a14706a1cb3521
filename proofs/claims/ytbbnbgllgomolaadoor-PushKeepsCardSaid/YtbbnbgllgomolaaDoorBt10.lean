/- mass.each, with Add and with Sub: walks (printed by a program of mine). -/
/- mass.Add and mass.Sub: walks (printed by a program of mine). -/
/- mass.Seed: a walk (printed by a program of mine). -/
import Derived.Test.YtbbnbgllgomolaaDoorBt09
import Derived.Test.YtbbnbgllgomolaaDoorBt08
import Derived.Test.YtbbnbgllgomolaaDoorBt07
namespace Go.Proofs.YtbbnbgllgomolaaDoor
open Go.RowKit
namespace Ma
open Dp Dy
attribute [local go_sem] Oper.semAt_some
def ResV (W : World) (lo : Nat) (r : Dn) (d : Dv) : Prop := d.s = r.neg ∧ d.e = r.e ∧ d.xs = canon 4294967296 r.m ∧ d.n ≤ d.c ∧ Ints W lo W.heap.size .u32 d.A d.n d.xs
theorem stepJ2 {P : Program} {os : List Oper} {Q : Exit → Act → World → Prop} {md : Region.Mode} {S : World → Prop} {nf : Nat} {E : List Nat} {i j n : Nat} {oi oj : Oper} {listed Li Lj : Array Bool} {a : Act} {w : World} (hi : os[i]? = some oi) (hj : os[j]? = some oj) (hLi : listed.setIfInBounds i true = Li) (hLj : listed.setIfInBounds j true = Lj)
  (hr : Region.ready md os.toArray listed = [i, j]) (hwi : Region.wanted oi (yielded os.toArray a.tmps) = true) (hwj : Region.wanted oj (yielded os.toArray a.tmps) = true)
  (h : ∀ K' : Act → World → Prop, (∀ a w', ((E.contains i = false → S w → S w') ∧ wpAnyJ nf P md os.toArray Q S E n Li a w') → K' a w') → Oper.wpIn Fence.wide nf P oi a w K' Q)
  (h' : ∀ K' : Act → World → Prop, (∀ a w', ((E.contains j = false → S w → S w') ∧ wpAnyJ nf P md os.toArray Q S E n Lj a w') → K' a w') → Oper.wpIn Fence.wide nf P oj a w K' Q) :
  wpAnyJ nf P md os.toArray Q S E (n + 1) listed a w := by
 subst hLi
 subst hLj
 refine ⟨fun h0 => (by rw [hr] at h0; cases h0), fun m hm => ?_⟩
 rw [hr] at hm
 simp only [List.mem_cons, List.not_mem_nil, or_false] at hm
 rcases hm with rfl | rfl
 · refine wpOpIn_step (by simpa using hi) (fun K' hK => ?_)
   rw [if_pos hwi]
   exact Oper.wpIn_mono (fun a' w' h' => hK a' w' h') (h _ (fun _ _ h => h))
 · refine wpOpIn_step (by simpa using hj) (fun K' hK => ?_)
   rw [if_pos hwj]
   exact Oper.wpIn_mono (fun a' w' h' => hK a' w' h') (h' _ (fun _ _ h => h))
theorem ints_blocks {w w' : World} {lo hi n : Nat} {k : IntKind} {A : Option Addr} {xs : List Int} (h : Ints w lo hi k A n xs) (hk : ∀ b, lo ≤ b → w'.heap[b]? = w.heap[b]?) : Ints w' lo hi k A n xs :=
 ⟨h.len, h.wf, h.big, fun h0 => by
  obtain ⟨b, off, e, h1, h2, hc⟩ := h.row h0
  have h3 := hk b h1
  exact ⟨b, off, e, h1, h2, fun j hj => ⟨by rw [World.cell?_of_block h3]; exact (hc j hj).1, by rw [World.frozen?_of_block h3]; exact (hc j hj).2⟩⟩⟩
theorem boxes4x (w : World) (o1 o2 o3 o4 : Obj) {w1 : World} (hw : (((w.alloc o1).alloc o2).alloc o3).alloc o4 = w1) :
  (w1.heap[w.heap.size]? = some o1 ∧ w1.heap[w.heap.size + 1]? = some o2 ∧ w1.heap[w.heap.size + 1 + 1]? = some o3 ∧ w1.heap[w.heap.size + 1 + 1 + 1]? = some o4) ∧ Below w.heap.size w w1 ∧ w.heap.size + 4 ≤ w1.heap.size ∧ w1.heap.size ≤ w.heap.size + 4 := boxes4 w o1 o2 o3 o4 hw
noncomputable def xAdd (a b : Mv) (j : Nat) : Dn × Int := addX (a.get j).s (a.get j).xs (a.get j).e (b.get j).s (b.get j).xs (b.get j).e
theorem code_twoAdd {a b : Mv} {x : Nat} {r : Dn} {code : Int} (ha : (a.get x).may) (hb : (b.get x).may) (h : xAdd a b x = (r, code)) : code = 0 ∨ code = 10 := by
 unfold xAdd at h
 rw [addX_ok ha hb] at h
 rcases add_cases (dn (a.get x).s (a.get x).xs (a.get x).e) (dn (b.get x).s (b.get x).xs (b.get x).e) with k | k
 · rw [h] at k
   exact .inl k
 · rw [h] at k
   injection k with _ k
   exact .inr k
/-- What stands amid the rounds. -/
structure EaAdd (w : World) (ge B : Nat) (a b : Mv) (pre : List Nat) (O : Nat → Prop) (W : World) (a' : Mv) (c : Int) : Prop where
 own : O w.heap.size ∧ O ge
 box : MBox W w.heap.size a'
 bbx : MBox W (w.heap.size + 1) b
 fn : W.heap[w.heap.size + 1 + 1]? = some (.cells #[.func (.func 42) #[] #[]] 50 (0, 0))
 res : MBox W (w.heap.size + 1 + 1 + 1) ZM
 ec : W.heap[ge]? = some (.cells #[.int .i64 c] 29 (0, 0))
 tab : Tab W
 bel : Below w.heap.size w W
 rest : c = 0 → ∀ j, j ∉ pre → j < 4 → a'.get j = a.get j
 done : c = 0 → ∀ j, j ∈ pre → j < 4 → (xAdd a b j).2 = 0 ∧ ResV W B (xAdd a b j).1 (a'.get j)
 bad : c ≠ 0 → c = 10 ∧ ∃ j, j < 4 ∧ (xAdd a b j).2 ≠ 0
theorem EaAdd.grown {w : World} {ge B : Nat} {a b : Mv} {pre : List Nat} {O : Nat → Prop} {W W' : World} {a' : Mv} {c : Int} {row : Option Nat} (h : EaAdd w ge B a b pre O W a' c) (hg : W.grownBy W' row) (h0 : 0 < w.heap.size)
  (hr : ∀ r, row = some r → (w.heap.size + 1 + 1 + 1 < r ∧ r ≠ ge) ∧ ((∃ o : Obj, W.heap[r]? = some o ∧ o.isCells = false) ∨ r < B)) : EaAdd w ge B a b pre O W' a' c where
 own := h.own
 box := (hg.block _ (lt_of_heap h.box) (fun e => by have := hr _ e.symm; omega)).trans h.box
 bbx := (hg.block _ (lt_of_heap h.bbx) (fun e => by have := hr _ e.symm; omega)).trans h.bbx
 fn := (hg.block _ (lt_of_heap h.fn) (fun e => by have := hr _ e.symm; omega)).trans h.fn
 res := (hg.block _ (lt_of_heap h.res) (fun e => by have := hr _ e.symm; omega)).trans h.res
 ec := (hg.block _ (lt_of_heap h.ec) (fun e => by have := hr _ e.symm; omega)).trans h.ec
 tab := h.tab.keep (hg.block 0 h.tab.lt (fun e => by have := hr _ e.symm; omega))
 bel := h.bel.grown hg h.bel.size (fun k e => by have := hr _ e; omega)
 rest := h.rest
 done := fun hc j h1 h2 => ⟨(h.done hc j h1 h2).1, (h.done hc j h1 h2).2.1, (h.done hc j h1 h2).2.2.1, (h.done hc j h1 h2).2.2.2.1, (h.done hc j h1 h2).2.2.2.2.1, (ints_own (h.done hc j h1 h2).2.2.2.2.2 hg (fun r e => (hr r e).2)).more (Nat.le_refl _) hg.size⟩
 bad := h.bad
set_option maxHeartbeats 6400000 in
set_option maxRecDepth 100000 in
theorem eachAdd_ok (w : World) (a b : Mv) (hA : MRows w 0 w.heap.size a) (hBb : MRows w 0 w.heap.size b) (ha : a.may) (hb_ : b.may) (hT : Tab w) :
  Calls Tryd.prog 79 #[.agg #[.bool a.S.s, .slice a.S.A a.S.n a.S.c, .int .i64 a.S.e, .bool a.W.s, .slice a.W.A a.W.n a.W.c, .int .i64 a.W.e, .bool a.C.s, .slice a.C.A a.C.n a.C.c, .int .i64 a.C.e, .bool a.A.s, .slice a.A.A a.A.n a.A.c, .int .i64 a.A.e], .agg #[.bool b.S.s, .slice b.S.A b.S.n b.S.c, .int .i64 b.S.e, .bool b.W.s, .slice b.W.A b.W.n b.W.c, .int .i64 b.W.e, .bool b.C.s, .slice b.C.A b.C.n b.C.c, .int .i64 b.C.e, .bool b.A.s, .slice b.A.A b.A.n b.A.c, .int .i64 b.A.e], .func (.func 42) #[] #[]] w fun e w' => ∃ m' code, e = .returned (.tuple #[.agg #[.bool m'.S.s, .slice m'.S.A m'.S.n m'.S.c, .int .i64 m'.S.e, .bool m'.W.s, .slice m'.W.A m'.W.n m'.W.c, .int .i64 m'.W.e, .bool m'.C.s, .slice m'.C.A m'.C.n m'.C.c, .int .i64 m'.C.e, .bool m'.A.s, .slice m'.A.A m'.A.n m'.A.c, .int .i64 m'.A.e], .int .i64 code]) ∧ Below w.heap.size w w' ∧
   ((code = 0 ∧ ∀ j, j < 4 → (xAdd a b j).2 = 0 ∧ ResV w' w.heap.size (xAdd a b j).1 (m'.get j)) ∨ (code = 10 ∧ (∃ j, j < 4 ∧ (xAdd a b j).2 ≠ 0) ∧ m' = ZM)) := by
 have hmx : Tryd.prog.follows .mixedOrders = true := by kernel_rfl
 have HA := Lib.hid ha
 have HBm := Lib.hid hb_
 have hka := Lib.hid (show chkM a = 0 from if_pos ha)
 have hkb := Lib.hid (show chkM b = 0 from if_pos hb_)
 clear ha hb_
 refine (callsIn_wide (n := 5)).1 ?_
 refine callsIn_of_wp_marks Tryd.func79 rfl trivial ?_ rfl
 simp only [Tryd.ntmps79, List.size_toArray, List.length_cons, List.length_nil, Nat.reduceAdd, Nat.reduceSub, Array.replicate_succ, Array.replicate_zero, List.push_toArray, List.append_toArray, List.nil_append, List.cons_append]
 generalize hw : (((w.alloc (.cells #[.bool a.S.s, .slice a.S.A a.S.n a.S.c, .int .i64 a.S.e, .bool a.W.s, .slice a.W.A a.W.n a.W.c, .int .i64 a.W.e, .bool a.C.s, .slice a.C.A a.C.n a.C.c, .int .i64 a.C.e, .bool a.A.s, .slice a.A.A a.A.n a.A.c, .int .i64 a.A.e] 26)).alloc (.cells #[.bool b.S.s, .slice b.S.A b.S.n b.S.c, .int .i64 b.S.e, .bool b.W.s, .slice b.W.A b.W.n b.W.c, .int .i64 b.W.e, .bool b.C.s, .slice b.C.A b.C.n b.C.c, .int .i64 b.C.e, .bool b.A.s, .slice b.A.A b.A.n b.A.c, .int .i64 b.A.e] 26)).alloc (.cells #[.func (.func 42) #[] #[]] 50)).alloc (.cells #[.bool false, .slice none 0 0, .int .i64 0, .bool false, .slice none 0 0, .int .i64 0, .bool false, .slice none 0 0, .int .i64 0, .bool false, .slice none 0 0, .int .i64 0] 26) = w1
 obtain ⟨⟨hM1, hN1, hF1, hZ1⟩, hB1, hlo, hhi⟩ := boxes4x w _ _ _ _ hw
 have tT := hT.below hB1 hT.lt
 have hA1 := hA.below hB1 (Nat.le_refl _)
 have hBb1 := hBb.below hB1 (Nat.le_refl _)
 obtain ⟨⟨k0, k1, k2, k3, k4, k5, k6, k7, k8, k9, k10, k11⟩, kf⟩ := MBox.cells (m := a) hM1
 gi_wp2_with fail
 refine ⟨trivial, (callsIn_wide.2 (MCheck_any w1 a (hA1.more (Nat.le_refl _) (by omega)) 0 hka.out)).mono ?_⟩
 rintro e w2 ⟨rfl, hB2⟩
 try clear hw
 clear k0 k1 k2 k3 k4 k5 k6 k7 k8 k9 k10 k11 kf
 replace hM1 := box_on hM1 hB2 (by omega)
 replace hN1 := box_on hN1 hB2 (by omega)
 replace hF1 := box_on hF1 hB2 (by omega)
 replace hZ1 := box_on hZ1 hB2 (by omega)
 replace tT := tT.below hB2 tT.lt
 have hB12 := hB1.trans (hB2.mono hB1.size)
 have hs2 := hB2.size
 obtain ⟨⟨k0, k1, k2, k3, k4, k5, k6, k7, k8, k9, k10, k11⟩, kf⟩ := MBox.cells (m := b) hN1
 gi_wp2_with fail
 refine ⟨trivial, (callsIn_wide.2 (MCheck_any w2 b ((hBb.below hB12 (Nat.le_refl _)).more (Nat.le_refl _) (by omega)) 0 hkb.out)).mono ?_⟩
 rintro e w3 ⟨rfl, hB3⟩
 clear k0 k1 k2 k3 k4 k5 k6 k7 k8 k9 k10 k11 kf
 replace hM1 := box_on hM1 hB3 (by omega)
 replace hN1 := box_on hN1 hB3 (by omega)
 replace hF1 := box_on hF1 hB3 (by omega)
 replace hZ1 := box_on hZ1 hB3 (by omega)
 replace tT := tT.below hB3 tT.lt
 have hB13 := hB12.trans (hB3.mono (by omega))
 have hs3 := hB3.size
 clear hB1 hB2 hB12 hB3 hA1 hBb1
 gi_wp2_with fail
 refine ⟨trivial, (callsIn_wide.2 (parts_any _ _ _)).mono ?_⟩
 rintro e w4 ⟨rfl, rfl⟩
 gi_wp2_with fail
 obtain ⟨W0, hW0⟩ : ∃ W0, ((w3.alloc (.cells #[.int .i64 0] 29)).alloc (.cells #[.pointer (some ⟨w.heap.size, 0, none⟩)] 86)).alloc (.cells #[.pointer (some ⟨w.heap.size + 1, 0, none⟩)] 86) = W0 := ⟨_, rfl⟩
 obtain ⟨hE0, hS1, hS2, hB4, hlo4, hhi4⟩ := boxes3 w3 _ _ _ hW0
 rw [hW0]
 clear hW0
 have hM0 := box_on hM1 hB4 (by omega)
 have hN0 := box_on hN1 hB4 (by omega)
 have hF0 := box_on hF1 hB4 (by omega)
 have hZ0 := box_on hZ1 hB4 (by omega)
 have tT0 := tT.below hB4 tT.lt
 have hB0 := hB13.trans (hB4.mono (by omega))
 have h0w : 0 < w.heap.size := hT.lt
 clear hM1 hN1 hF1 hZ1 tT hB13 hB4
 refine wpIn_rangeFunc_sep2 (F := Fence.wide) rfl (by decide) (gf := 80) (lb := #[.pointer (some ⟨w3.heap.size + 1, 0, none⟩), .pointer (some ⟨w3.heap.size + 1 + 1, 0, none⟩)]) rfl trivial (enters_of Tryd.func80 (by kernel_rfl) rfl)
  (parts_seq _ _ _ w.heap.size (w.heap.size + 1) W0 ⟨hS1, hS2⟩) (by omega) (fun _ => rfl)
  (fun pre O W => W0.heap.size ≤ W.heap.size ∧ ∃ a' c, EaAdd w w3.heap.size W0.heap.size a b pre O W a' c)
  (fun _ _ _ _ => False)
  (fun O s A B row hs hg hr => by
   obtain ⟨hsz, a', c, h⟩ := hs
   exact ⟨Nat.le_trans hsz hg.size, a', c, h.grown hg h0w (fun r e => ⟨by have := (hr r e).1; omega, .inl (hr r e).2⟩)⟩)
  (fun j O s A B row hs hg hr => hs)
  (fun s O A B row hs hg hr => by
   obtain ⟨hsz, a', c, h⟩ := hs
   exact ⟨Nat.le_trans hsz hg.size, a', c, h.grown hg h0w (fun r e => ⟨by have := hr r e; omega, .inr (by have := hr r e; omega)⟩)⟩)
  (fun j s O A B row hs hg hr => hs)
  (fun k => k = w.heap.size ∨ k = w3.heap.size) (fun k hk e => by omega) (fun k e => by omega) ⟨Nat.le_refl _, a, 0, ⟨.inl rfl, .inr rfl⟩, hM0, hN0, hF0, hZ0, hE0, tT0, hB0, fun _ _ _ _ => rfl, (fun _ x hx => absurd hx (List.not_mem_nil)), fun e => absurd rfl e⟩
  (fun x a' W => a' = { tmps := #[.agg #[.bool a.S.s, .slice a.S.A a.S.n a.S.c, .int .i64 a.S.e, .bool a.W.s, .slice a.W.A a.W.n a.W.c, .int .i64 a.W.e, .bool a.C.s, .slice a.C.A a.C.n a.C.c, .int .i64 a.C.e, .bool a.A.s, .slice a.A.A a.A.n a.A.c, .int .i64 a.A.e], .agg #[.bool b.S.s, .slice b.S.A b.S.n b.S.c, .int .i64 b.S.e, .bool b.W.s, .slice b.W.A b.W.n b.W.c, .int .i64 b.W.e, .bool b.C.s, .slice b.C.A b.C.n b.C.c, .int .i64 b.C.e, .bool b.A.s, .slice b.A.A b.A.n b.A.c, .int .i64 b.A.e], .func (.func 42) #[] #[], .pointer (some ⟨w.heap.size, 0, none⟩), .pointer (some ⟨w.heap.size + 1, 0, none⟩), .pointer (some ⟨w.heap.size + 1 + 1, 0, none⟩), .pointer (some ⟨w.heap.size + 1 + 1 + 1, 0, none⟩), .int .i64 0, .pointer (some ⟨w3.heap.size, 0, none⟩),
   .pointer (some ⟨w.heap.size, 3 * x, none⟩), .pointer (some ⟨w.heap.size + 1, 3 * x, none⟩), .agg #[.bool a.S.s, .slice a.S.A a.S.n a.S.c, .int .i64 a.S.e, .bool a.W.s, .slice a.W.A a.W.n a.W.c, .int .i64 a.W.e, .bool a.C.s, .slice a.C.A a.C.n a.C.c, .int .i64 a.C.e, .bool a.A.s, .slice a.A.A a.A.n a.A.c, .int .i64 a.A.e], .int .i64 0, .bool false, .bool false, .agg #[.bool b.S.s, .slice b.S.A b.S.n b.S.c, .int .i64 b.S.e, .bool b.W.s, .slice b.W.A b.W.n b.W.c, .int .i64 b.W.e, .bool b.C.s, .slice b.C.A b.C.n b.C.c, .int .i64 b.C.e, .bool b.A.s, .slice b.A.A b.A.n b.A.c, .int .i64 b.A.e], .int .i64 0, .bool false, .bool false, undef,
   .func (.func 80) #[] #[.pointer (some ⟨w3.heap.size + 1, 0, none⟩), .pointer (some ⟨w3.heap.size + 1 + 1, 0, none⟩)], .pointer (some ⟨w.heap.size, 3 * x, none⟩), .pointer (some ⟨w.heap.size + 1, 3 * x, none⟩), undef, undef, undef, undef, undef, undef, undef, undef, undef, undef, undef, undef, undef, undef, undef, undef, undef, undef, undef, undef], defers := [] })
  (fun x a' _ _ _ _ h _ _ => h) ?assign ?body ?done ?stop
 case assign =>
  intro l pre x O W K hgx hsW hi hK
  unfold encM
  gi_wp2
  exact hK _ _ (KeepsFrom.refl _ _) (Gain.refl _ _) hi rfl
 case body =>
  rintro l pre x O a0 W ⟨hx4, hpre⟩ hsW ⟨hsz, a', c, h⟩ rfl _
  have hnin : x ∉ pre := fun hin => by
   rw [hpre] at hin
   exact Nat.lt_irrefl x (List.mem_range.1 hin)
  obtain ⟨e1, e2⟩ := cells1 h.ec
  by_cases hc : c = 0
  · subst hc
    have hmx4 := h.rest rfl x hnin hx4
    have hrow : Ints W 0 W.heap.size .u32 (a.get x).A (a.get x).n (a.get x).xs := ((hA.get x).below h.bel (Nat.le_refl _)).more (Nat.le_refl _) h.bel.size
    have hrow2 : Ints W 0 W.heap.size .u32 (b.get x).A (b.get x).n (b.get x).xs := ((hBb.get x).below h.bel (Nat.le_refl _)).more (Nat.le_refl _) h.bel.size
    obtain ⟨r, code, hX⟩ : ∃ r code, xAdd a b x = (r, code) := ⟨_, _, rfl⟩
    have hcode : code = 0 ∨ code = 10 := code_twoAdd (HA.out x hx4) (HBm.out x hx4) hX
    have HX := Lib.hid hX
    unfold xAdd at hX
    generalize hd : a.get x = d at hrow hX hmx4
    generalize hd' : b.get x = d' at hrow2 hX
    have HXX := Lib.hid hX
    have HD := Lib.hid hmx4
    have HD' := Lib.hid hd'
    clear hX hmx4 hd hd'
    gi_wp2
    refine roundRegion_E (Keeps W) [13, 14] (m := 15) (L := #[zF,zF,zF,zF,zF,zF,zF,zF,zF,zF,zF,zF,zF,zF,zF]) hmx (by kernel_rfl) (fun _ _ h => h) (by rfl) (by rfl) ?_
    have kD : Keeps W W.drew := fun _ _ => rfl
    refine zE 0 #[zT,zF,zF,zF,zF,zF,zF,zF,zF,zF,zF,zF,zF,zF,zF] ?_ rfl ?hy1 ?rest1
    case hy1 => intro w; go_simp; (try with_reducible rfl)
    try simp only [Act.put, zp]
    refine readE (i := 1) (L := #[zT,zT,zF,zF,zF,zF,zF,zF,zF,zF,zF,zF,zF,zF,zF]) (v := .func (.func 42) #[] #[]) rfl (by rfl) (by kernel_rfl) (by kernel_rfl) (by kernel_rfl) (fun _ _ _ h => h) (by assumption) (by rfl) ?ry1 ?rr1
    case ry1 =>
     intro w' h1
     obtain ⟨k1, _⟩ := cells1 ((h1 _ (lt_of_heap h.fn)).trans h.fn)
     go_simp
    try simp only [Act.put, zp]
    refine zE 2 #[zT,zT,zT,zF,zF,zF,zF,zF,zF,zF,zF,zF,zF,zF,zF] ?_ rfl ?hy3 ?rest3
    case hy3 => intro w; go_simp; (try with_reducible rfl)
    try simp only [Act.put, zp]
    refine zE 3 #[zT,zT,zT,zT,zF,zF,zF,zF,zF,zF,zF,zF,zF,zF,zF] ?_ rfl ?hy4 ?rest4
    case hy4 => intro w; go_simp; (try with_reducible rfl)
    try simp only [Act.put, zp]
    refine readE (i := 4) (L := #[zT,zT,zT,zT,zT,zF,zF,zF,zF,zF,zF,zF,zF,zF,zF]) (v := .agg #[.bool d.s, .slice d.A d.n d.c, .int .i64 d.e]) rfl (by rfl) (by kernel_rfl) (by kernel_rfl) (by kernel_rfl) (fun _ _ _ h => h) (by assumption) (by rfl) ?ry4 ?rr4
    case ry4 =>
     intro w' h1
     obtain ⟨⟨k1, k2, k3⟩, _⟩ := MBox.at_ (m := a') ((h1 _ (lt_of_heap h.box)).trans h.box) hx4
     rw [HD.out] at k1 k2 k3
     go_simp
    try simp only [Act.put, zp]
    refine zE 5 #[zT,zT,zT,zT,zT,zT,zF,zF,zF,zF,zF,zF,zF,zF,zF] ?_ rfl ?hy6 ?rest6
    case hy6 => intro w; go_simp; (try with_reducible rfl)
    try simp only [Act.put, zp]
    refine zE 6 #[zT,zT,zT,zT,zT,zT,zT,zF,zF,zF,zF,zF,zF,zF,zF] ?_ rfl ?hy7 ?rest7
    case hy7 => intro w; go_simp; (try with_reducible rfl)
    try simp only [Act.put, zp]
    refine readE (i := 7) (L := #[zT,zT,zT,zT,zT,zT,zT,zT,zF,zF,zF,zF,zF,zF,zF]) (v := .agg #[.bool d'.s, .slice d'.A d'.n d'.c, .int .i64 d'.e]) rfl (by rfl) (by kernel_rfl) (by kernel_rfl) (by kernel_rfl) (fun _ _ _ h => h) (by assumption) (by rfl) ?ry7 ?rr7
    case ry7 =>
     intro w' h1
     obtain ⟨⟨k1, k2, k3⟩, _⟩ := MBox.at_ (m := b) ((h1 _ (lt_of_heap h.bbx)).trans h.bbx) hx4
     rw [HD'.out] at k1 k2 k3
     go_simp
    try simp only [Act.put, zp]
    refine stepK (i := 8) (L := #[zT,zT,zT,zT,zT,zT,zT,zT,zT,zF,zF,zF,zF,zF,zF]) rfl (by rfl) (by kernel_rfl) (by rfl) (fun K hK => ?_)
    go_simp
    go_at_call 42
    refine (Add_all W.drew d.s d'.s d.A d'.A d.n d.c d'.n d'.c d.xs d'.xs d.e d'.e (hrow.drewN 1) (hrow2.drewN 1) (h.tab.keep rfl) r code HXX.out).mono ?_
    rintro e W2 ⟨P4, i4, d4, rfl, lc4, hB', hI⟩
    have hB : Below W.heap.size W W2 := (Below.refl _ W).drew.trans hB'
    have hI4 : Ints W2 W.heap.size W2.heap.size .u32 P4 i4 (canon 4294967296 r.m) := hI
    clear hB' hI
    refine hK _ _ ⟨fun _ _ p hp => hB.block p hp, ?_⟩
    clear hK K
    try simp only [Act.put, zp]
    refine zE 9 #[zT,zT,zT,zT,zT,zT,zT,zT,zT,zT,zF,zF,zF,zF,zF] ?_ rfl ?hy10 ?rest10
    case hy10 => intro w; go_simp; (try with_reducible rfl)
    try simp only [Act.put, zp]
    refine zE 10 #[zT,zT,zT,zT,zT,zT,zT,zT,zT,zT,zT,zF,zF,zF,zF] ?_ rfl ?hy11 ?rest11
    case hy11 => intro w; go_simp; (try with_reducible rfl)
    try simp only [Act.put, zp]
    refine zE 11 #[zT,zT,zT,zT,zT,zT,zT,zT,zT,zT,zT,zT,zF,zF,zF] ?_ rfl ?hy12 ?rest12
    case hy12 => intro w; go_simp; (try with_reducible rfl)
    try simp only [Act.put, zp]
    refine zE 12 #[zT,zT,zT,zT,zT,zT,zT,zT,zT,zT,zT,zT,zT,zF,zF] ?_ rfl ?hy13 ?rest13
    case hy13 => intro w; go_simp; (try with_reducible rfl)
    try simp only [Act.put, zp]
    have hM2 : MBox W2 w.heap.size a' := box_on h.box hB (lt_of_heap h.box)
    have hN2 : MBox W2 (w.heap.size + 1) b := box_on h.bbx hB (lt_of_heap h.bbx)
    have hF2 := box_on h.fn hB (lt_of_heap h.fn)
    have hZ2 : MBox W2 (w.heap.size + 1 + 1 + 1) ZM := box_on h.res hB (lt_of_heap h.res)
    have hE2 := box_on h.ec hB (lt_of_heap h.ec)
    have tT2 := h.tab.below hB h.tab.lt
    have hb2 := h.bel.trans (hB.mono h.bel.size)
    obtain ⟨⟨j1, j2, j3⟩, j4, j5, j6⟩ := MBox.at_ hM2 hx4
    refine stepK (i := 13) (L := #[zT,zT,zT,zT,zT,zT,zT,zT,zT,zT,zT,zT,zT,zT,zF]) rfl (by rfl) (by kernel_rfl) (by rfl) (fun K hK => ?_)
    go_simp
    refine hK _ _ ⟨fun h => absurd h (by decide), ?_⟩
    clear hK K
    try simp only [Act.put, zp]
    clear j1 j2 j3 j4 j5 j6 e1 e2
    have hs2 := h.bel.size
    have hs3 := hB.size
    have hw3 : w.heap.size + 4 ≤ w3.heap.size := by omega
    have hV := MBox.put hM2 hx4 ⟨r.neg, P4, i4, d4, r.e, canon 4294967296 r.m⟩
    have hVs : (((W2.setCell ⟨w.heap.size, 3 * x, none⟩ (.bool r.neg)).setCell ⟨w.heap.size, 3 * x + 1, none⟩ (.slice P4 i4 d4)).setCell ⟨w.heap.size, 3 * x + 2, none⟩ (.int .i64 r.e)).heap.size = W2.heap.size := by simp only [size_set]
    have hVf : ∀ k, k ≠ w.heap.size → (((W2.setCell ⟨w.heap.size, 3 * x, none⟩ (.bool r.neg)).setCell ⟨w.heap.size, 3 * x + 1, none⟩ (.slice P4 i4 d4)).setCell ⟨w.heap.size, 3 * x + 2, none⟩ (.int .i64 r.e)).heap[k]? = W2.heap[k]? := fun k hk => (Below.heap_setCell _ _ _ _ hk).trans ((Below.heap_setCell _ _ _ _ hk).trans (Below.heap_setCell _ _ _ _ hk))
    have hVk : KeepsFrom W0.heap.size W (((W2.setCell ⟨w.heap.size, 3 * x, none⟩ (.bool r.neg)).setCell ⟨w.heap.size, 3 * x + 1, none⟩ (.slice P4 i4 d4)).setCell ⟨w.heap.size, 3 * x + 2, none⟩ (.int .i64 r.e)) := (keeps_below hB).trans (((KeepsOthers.setCell _ _ _).trans (KeepsOthers.setCell _ _ _)).trans (KeepsOthers.setCell _ _ _) |>.from _)
    have hVg : Gain O O W (((W2.setCell ⟨w.heap.size, 3 * x, none⟩ (.bool r.neg)).setCell ⟨w.heap.size, 3 * x + 1, none⟩ (.slice P4 i4 d4)).setCell ⟨w.heap.size, 3 * x + 2, none⟩ (.int .i64 r.e)) := (gain_below hB).trans (((gain_set h.own.1 _).trans (gain_set h.own.1 _)).trans (gain_set h.own.1 _))
    have hVb := ((hb2.setCell (p := ⟨w.heap.size, 3 * x, none⟩) (Nat.le_refl _) (.bool r.neg)).setCell (p := ⟨w.heap.size, 3 * x + 1, none⟩) (Nat.le_refl _) (.slice P4 i4 d4)).setCell (p := ⟨w.heap.size, 3 * x + 2, none⟩) (Nat.le_refl _) (.int .i64 r.e)
    generalize ((W2.setCell ⟨w.heap.size, 3 * x, none⟩ (.bool r.neg)).setCell ⟨w.heap.size, 3 * x + 1, none⟩ (.slice P4 i4 d4)).setCell ⟨w.heap.size, 3 * x + 2, none⟩ (.int .i64 r.e) = V at *
    have HVS := Lib.hid hVs
    have lV : W2.heap.size ≤ V.heap.size := by omega
    clear hVs
    have hE3 : V.heap[w3.heap.size]? = some (.cells #[.int .i64 0] 29 (0, 0)) := (hVf _ (by omega)).trans hE2
    obtain ⟨q1, q2⟩ := cells1 hE3
    refine stepK (i := 14) (L := #[zT,zT,zT,zT,zT,zT,zT,zT,zT,zT,zT,zT,zT,zT,zT]) rfl (by rfl) (by kernel_rfl) (by rfl) (fun K hK => ?_)
    go_simp
    refine hK _ _ ⟨fun h => absurd h (by decide), ?_⟩
    clear hK K
    try simp only [Act.put, zp]
    refine doneE (by kernel_rfl) ?_ _
    clear q1 q2
    gi_wp2
    have far : ∀ k, k ≠ w.heap.size → k ≠ w3.heap.size → (V.setCell ⟨w3.heap.size, 0, none⟩ (.int .i64 code)).heap[k]? = W2.heap[k]? := fun k h1 h2 => (Below.heap_setCell _ _ _ _ h2).trans (hVf k h1)
    have szV : (V.setCell ⟨w3.heap.size, 0, none⟩ (.int .i64 code)).heap.size = W2.heap.size := (size_set _ _ _).trans HVS.out
    refine ⟨hVk.trans ((KeepsOthers.setCell _ _ _).from _), O, hVg.trans (gain_set h.own.2 _), by rw [szV]; omega, a'.put x ⟨r.neg, P4, i4, d4, r.e, canon 4294967296 r.m⟩, code, h.own, (Below.heap_setCell _ _ _ _ (by simp; omega)).trans hV, (far _ (by omega) (by omega)).trans hN2, (far _ (by omega) (by omega)).trans hF2, (far _ (by omega) (by omega)).trans hZ2, set1 hE3 _, tT2.keep (far 0 (by omega) (by omega)), hVb.setCell (by simp; omega) _, fun _ j hj hj4 => ?_, fun hc j hj hj4 => ?_, fun hc => ?_⟩
    · have h1 : j ∉ pre := fun h1 => hj (List.mem_append_left _ h1)
      have e : j ≠ x := fun e => hj (by rw [e]; exact List.mem_append_right _ (List.mem_singleton.2 rfl))
      rw [put_get hx4 hj4, if_neg e]
      exact h.rest rfl j h1 hj4
    · rw [put_get hx4 hj4]
      have rowmv : ∀ {lo hi n : Nat} {A : Option Addr} {xs : List Int}, Ints W2 lo hi .u32 A n xs → W0.heap.size ≤ lo → Ints (V.setCell ⟨w3.heap.size, 0, none⟩ (.int .i64 code)) lo hi .u32 A n xs := fun hi hl => ints_blocks hi (fun k h1 => far k (by omega) (by omega))
      by_cases e : j = x
      · rw [if_pos e, e, HX.out]
        refine ⟨hc, rfl, rfl, rfl, lc4, ?_⟩
        exact (rowmv (hI4.more hsz (Nat.le_refl _)) (Nat.le_refl _)).more (Nat.le_refl _) (by rw [szV]; exact Nat.le_refl _)
      · rw [if_neg e]
        have hjp : j ∈ pre := by
         rcases List.mem_append.1 hj with h1 | h1
         · exact h1
         · exact absurd (List.mem_singleton.1 h1) e
        obtain ⟨y1, y2, y3, y4, y5, y6⟩ := h.done rfl j hjp hj4
        exact ⟨y1, y2, y3, y4, y5, (rowmv (y6.below hB (Nat.le_refl _)) (Nat.le_refl _)).more (Nat.le_refl _) (by rw [szV]; omega)⟩
    · exact ⟨hcode.resolve_left hc, x, hx4, by rw [HX.out]; exact hc⟩
  · have hcb : (c != 0) = true := by simpa using hc
    gi_wp2
    exact ⟨KeepsFrom.refl _ _, O, Gain.refl _ _, hsz, a', c, h.own, h.box, h.bbx, h.fn, h.res, h.ec, h.tab, h.bel, fun e => absurd e hc, fun e => absurd e hc, h.bad⟩
 case done =>
  rintro D ys O W hD hS ⟨hsz, m', c, h⟩ hK
  obtain ⟨e1, e2⟩ := cells1 h.ec
  have hbel := h.bel
  have hres := h.res
  have hec := h.ec
  obtain ⟨⟨z0, z1, z2, z3, z4, z5, z6, z7, z8, z9, z10, z11⟩, zf⟩ := MBox.cells h.res
  by_cases hc : c = 0
  · subst hc
    obtain ⟨⟨k0, k1, k2, k3, k4, k5, k6, k7, k8, k9, k10, k11⟩, kf⟩ := MBox.cells h.box
    have hall : ∀ x, x < 4 → (xAdd a b x).2 = 0 ∧ ResV W W0.heap.size (xAdd a b x).1 (m'.get x) := fun x hx => h.done rfl x (by rw [hS]; simp; omega) hx
    clear h hS
    gi_wp2
    have hK' := (keeps_all (w := W) (g := w.heap.size + 1 + 1 + 1) m').same D _ hK rfl
    have hX := MBox.all hres m'
    have hY := below_all hbel (show w.heap.size ≤ w.heap.size + 1 + 1 + 1 by omega) m'
    have hR' : MRows W W0.heap.size W.heap.size m' := ⟨(hall 0 (by decide)).2.2.2.2.2, (hall 1 (by decide)).2.2.2.2.2, (hall 2 (by decide)).2.2.2.2.2, (hall 3 (by decide)).2.2.2.2.2⟩
    have hZ := rows_all hR' (g := w.heap.size + 1 + 1 + 1) (.inl (by omega)) m'
    have hs := size_all (w := W) (g := w.heap.size + 1 + 1 + 1) m'
    clear k0 k1 k2 k3 k4 k5 k6 k7 k8 k9 k10 k11 kf z0 z1 z2 z3 z4 z5 z6 z7 z8 z9 z10 z11 zf
    generalize ((((((((((((W.setCell ⟨w.heap.size + 1 + 1 + 1, 0, none⟩ (.bool m'.S.s)).setCell ⟨w.heap.size + 1 + 1 + 1, 1, none⟩ (.slice m'.S.A m'.S.n m'.S.c)).setCell ⟨w.heap.size + 1 + 1 + 1, 2, none⟩ (.int .i64 m'.S.e)).setCell ⟨w.heap.size + 1 + 1 + 1, 3, none⟩ (.bool m'.W.s)).setCell ⟨w.heap.size + 1 + 1 + 1, 4, none⟩ (.slice m'.W.A m'.W.n m'.W.c)).setCell ⟨w.heap.size + 1 + 1 + 1, 5, none⟩ (.int .i64 m'.W.e)).setCell ⟨w.heap.size + 1 + 1 + 1, 6, none⟩ (.bool m'.C.s)).setCell ⟨w.heap.size + 1 + 1 + 1, 7, none⟩ (.slice m'.C.A m'.C.n m'.C.c)).setCell ⟨w.heap.size + 1 + 1 + 1, 8, none⟩ (.int .i64 m'.C.e)).setCell ⟨w.heap.size + 1 + 1 + 1, 9, none⟩ (.bool m'.A.s)).setCell ⟨w.heap.size + 1 + 1 + 1, 10, none⟩ (.slice m'.A.A m'.A.n m'.A.c)).setCell ⟨w.heap.size + 1 + 1 + 1, 11, none⟩ (.int .i64 m'.A.e)) = V at *
    have hX2 : MBox (V.putObj D (.deferred none)) (w.heap.size + 1 + 1 + 1) m' := (World.putObj_heap_other (o := .deferred none) (by omega : w.heap.size + 1 + 1 + 1 ≠ D)).trans hX
    obtain ⟨⟨k0, k1, k2, k3, k4, k5, k6, k7, k8, k9, k10, k11⟩, kf⟩ := MBox.cells hX2
    refine ⟨by simp, .inl ⟨_, _, rfl, run_takeDeferred hK', ?_⟩⟩
    refine ⟨.tuple #[.agg #[.bool m'.S.s, .slice m'.S.A m'.S.n m'.S.c, .int .i64 m'.S.e, .bool m'.W.s, .slice m'.W.A m'.W.n m'.W.c, .int .i64 m'.W.e, .bool m'.C.s, .slice m'.C.A m'.C.n m'.C.c, .int .i64 m'.C.e, .bool m'.A.s, .slice m'.A.A m'.A.n m'.A.c, .int .i64 m'.A.e], .int .i64 0], ?_, m', 0, rfl, hY.trans (belowK_b (w := w) (Nat.le_refl _) _ D _ _ (by omega) hK' rfl rfl), .inl ⟨rfl, fun x hx => ⟨(hall x hx).1, (hall x hx).2.1, (hall x hx).2.2.1, (hall x hx).2.2.2.1, (hall x hx).2.2.2.2.1, ?_⟩⟩⟩
    · simp [results, Tryd.f79, go_sem, k0, k1, k2, k3, k4, k5, k6, k7, k8, k9, k10, k11]
    · have hsz2 : (V.putObj D (.deferred none)).heap.size = V.heap.size := by simp
      have hs' : V.heap.size = W.heap.size := hs
      exact (ints_own (hZ.get x) (grown_putD V D) (fun r e => by
       injection e with e
       exact .inl ⟨_, e ▸ hK', rfl⟩)).more (by omega) (by omega)
  · have hcb : (c != 0) = true := by simpa using hc
    obtain ⟨rfl, hbad⟩ := h.bad hc
    clear h hS
    gi_wp2_with fail
    refine region_J (fun _ => True) [] (m := 4) (L := #[zF,zF,zF,zF]) (by kernel_rfl) (by rfl) (by rfl) ?_
    have hec2 : W.drew.heap[w3.heap.size]? = some (.cells #[.int .i64 10] 29 (0, 0)) := hec
    have hres2 : MBox W.drew (w.heap.size + 1 + 1 + 1) ZM := hres
    have hbel2 : Below w.heap.size w W.drew := hbel.drew
    have hK2 : W.drew.heap[D]? = some (.deferred (some [])) := hK
    have hsz2 : W.drew.heap.size = W.heap.size := rfl
    have lsz : W0.heap.size ≤ W.drew.heap.size := hsz
    clear hec hres hbel hK z0 z1 z2 z3 z4 z5 z6 z7 z8 z9 z10 z11 zf e1 e2 hsz hsz2
    generalize W.drew = U at *
    obtain ⟨e1, e2⟩ := cells1 hec2
    obtain ⟨⟨z0, z1, z2, z3, z4, z5, z6, z7, z8, z9, z10, z11⟩, zf⟩ := MBox.cells hres2
    have z12 := zf 0
    have hec3 : (((((((((((((U.setCell ⟨w.heap.size + 1 + 1 + 1, 0, none⟩ (.bool false)).setCell ⟨w.heap.size + 1 + 1 + 1, 1, none⟩ (.slice none 0 0)).setCell ⟨w.heap.size + 1 + 1 + 1, 2, none⟩ (.int .i64 0)).setCell ⟨w.heap.size + 1 + 1 + 1, 3, none⟩ (.bool false)).setCell ⟨w.heap.size + 1 + 1 + 1, 4, none⟩ (.slice none 0 0)).setCell ⟨w.heap.size + 1 + 1 + 1, 5, none⟩ (.int .i64 0)).setCell ⟨w.heap.size + 1 + 1 + 1, 6, none⟩ (.bool false)).setCell ⟨w.heap.size + 1 + 1 + 1, 7, none⟩ (.slice none 0 0)).setCell ⟨w.heap.size + 1 + 1 + 1, 8, none⟩ (.int .i64 0)).setCell ⟨w.heap.size + 1 + 1 + 1, 9, none⟩ (.bool false)).setCell ⟨w.heap.size + 1 + 1 + 1, 10, none⟩ (.slice none 0 0)).setCell ⟨w.heap.size + 1 + 1 + 1, 11, none⟩ (.int .i64 0))).heap[w3.heap.size]? = some (.cells #[.int .i64 10] 29 (0, 0)) := (far_all (w := U) (g := w.heap.size + 1 + 1 + 1) (show w3.heap.size ≠ w.heap.size + 1 + 1 + 1 by omega) ZM).trans hec2
    have hXZ : MBox ((((((((((((U.setCell ⟨w.heap.size + 1 + 1 + 1, 0, none⟩ (.bool false)).setCell ⟨w.heap.size + 1 + 1 + 1, 1, none⟩ (.slice none 0 0)).setCell ⟨w.heap.size + 1 + 1 + 1, 2, none⟩ (.int .i64 0)).setCell ⟨w.heap.size + 1 + 1 + 1, 3, none⟩ (.bool false)).setCell ⟨w.heap.size + 1 + 1 + 1, 4, none⟩ (.slice none 0 0)).setCell ⟨w.heap.size + 1 + 1 + 1, 5, none⟩ (.int .i64 0)).setCell ⟨w.heap.size + 1 + 1 + 1, 6, none⟩ (.bool false)).setCell ⟨w.heap.size + 1 + 1 + 1, 7, none⟩ (.slice none 0 0)).setCell ⟨w.heap.size + 1 + 1 + 1, 8, none⟩ (.int .i64 0)).setCell ⟨w.heap.size + 1 + 1 + 1, 9, none⟩ (.bool false)).setCell ⟨w.heap.size + 1 + 1 + 1, 10, none⟩ (.slice none 0 0)).setCell ⟨w.heap.size + 1 + 1 + 1, 11, none⟩ (.int .i64 0)) (w.heap.size + 1 + 1 + 1) ZM := MBox.all hres2 ZM
    have hYZ : Below w.heap.size w ((((((((((((U.setCell ⟨w.heap.size + 1 + 1 + 1, 0, none⟩ (.bool false)).setCell ⟨w.heap.size + 1 + 1 + 1, 1, none⟩ (.slice none 0 0)).setCell ⟨w.heap.size + 1 + 1 + 1, 2, none⟩ (.int .i64 0)).setCell ⟨w.heap.size + 1 + 1 + 1, 3, none⟩ (.bool false)).setCell ⟨w.heap.size + 1 + 1 + 1, 4, none⟩ (.slice none 0 0)).setCell ⟨w.heap.size + 1 + 1 + 1, 5, none⟩ (.int .i64 0)).setCell ⟨w.heap.size + 1 + 1 + 1, 6, none⟩ (.bool false)).setCell ⟨w.heap.size + 1 + 1 + 1, 7, none⟩ (.slice none 0 0)).setCell ⟨w.heap.size + 1 + 1 + 1, 8, none⟩ (.int .i64 0)).setCell ⟨w.heap.size + 1 + 1 + 1, 9, none⟩ (.bool false)).setCell ⟨w.heap.size + 1 + 1 + 1, 10, none⟩ (.slice none 0 0)).setCell ⟨w.heap.size + 1 + 1 + 1, 11, none⟩ (.int .i64 0)) := below_all hbel2 (show w.heap.size ≤ w.heap.size + 1 + 1 + 1 by omega) ZM
    have hKZ : (((((((((((((U.setCell ⟨w.heap.size + 1 + 1 + 1, 0, none⟩ (.bool false)).setCell ⟨w.heap.size + 1 + 1 + 1, 1, none⟩ (.slice none 0 0)).setCell ⟨w.heap.size + 1 + 1 + 1, 2, none⟩ (.int .i64 0)).setCell ⟨w.heap.size + 1 + 1 + 1, 3, none⟩ (.bool false)).setCell ⟨w.heap.size + 1 + 1 + 1, 4, none⟩ (.slice none 0 0)).setCell ⟨w.heap.size + 1 + 1 + 1, 5, none⟩ (.int .i64 0)).setCell ⟨w.heap.size + 1 + 1 + 1, 6, none⟩ (.bool false)).setCell ⟨w.heap.size + 1 + 1 + 1, 7, none⟩ (.slice none 0 0)).setCell ⟨w.heap.size + 1 + 1 + 1, 8, none⟩ (.int .i64 0)).setCell ⟨w.heap.size + 1 + 1 + 1, 9, none⟩ (.bool false)).setCell ⟨w.heap.size + 1 + 1 + 1, 10, none⟩ (.slice none 0 0)).setCell ⟨w.heap.size + 1 + 1 + 1, 11, none⟩ (.int .i64 0))).heap[D]? = some (.deferred (some [])) := (keeps_all (w := U) (g := w.heap.size + 1 + 1 + 1) ZM).same D _ hK2 rfl
    refine stepJ2 (i := 0) (j := 1) (Li := #[zT,zF,zF,zF]) (Lj := #[zF,zT,zF,zF]) rfl rfl (by rfl) (by rfl) (by kernel_rfl) (by rfl) (by rfl) (fun K hK => ?pa) (fun K hK => ?pb)
    case pa =>
     go_simp
     refine hK _ _ ⟨fun _ h => h, ?_⟩
     clear hK K
     try simp only [Act.put, zp]
     refine stepJ2 (i := 1) (j := 2) (Li := #[zT,zT,zF,zF]) (Lj := #[zT,zF,zT,zF]) rfl rfl (by rfl) (by rfl) (by kernel_rfl) (by rfl) (by rfl) (fun K hK => ?pc) (fun K hK => ?pd)
     case pc =>
      go_simp
      refine hK _ _ ⟨fun _ h => h, ?_⟩
      clear hK K
      try simp only [Act.put, zp]
      refine stepKJ (i := 2) (L := #[zT,zT,zT,zF]) rfl (by rfl) (by kernel_rfl) (by rfl) (fun K hK => ?_)
      go_simp
      refine hK _ _ ⟨fun _ h => h, ?_⟩
      clear hK K
      try simp only [Act.put, zp]
      generalize ((((((((((((U.setCell ⟨w.heap.size + 1 + 1 + 1, 0, none⟩ (.bool false)).setCell ⟨w.heap.size + 1 + 1 + 1, 1, none⟩ (.slice none 0 0)).setCell ⟨w.heap.size + 1 + 1 + 1, 2, none⟩ (.int .i64 0)).setCell ⟨w.heap.size + 1 + 1 + 1, 3, none⟩ (.bool false)).setCell ⟨w.heap.size + 1 + 1 + 1, 4, none⟩ (.slice none 0 0)).setCell ⟨w.heap.size + 1 + 1 + 1, 5, none⟩ (.int .i64 0)).setCell ⟨w.heap.size + 1 + 1 + 1, 6, none⟩ (.bool false)).setCell ⟨w.heap.size + 1 + 1 + 1, 7, none⟩ (.slice none 0 0)).setCell ⟨w.heap.size + 1 + 1 + 1, 8, none⟩ (.int .i64 0)).setCell ⟨w.heap.size + 1 + 1 + 1, 9, none⟩ (.bool false)).setCell ⟨w.heap.size + 1 + 1 + 1, 10, none⟩ (.slice none 0 0)).setCell ⟨w.heap.size + 1 + 1 + 1, 11, none⟩ (.int .i64 0)) = V at *
      clear z0 z1 z2 z3 z4 z5 z6 z7 z8 z9 z10 z11 zf z12 e1 e2
      obtain ⟨e1, e2⟩ := cells1 hec3
      refine stepKJ (i := 3) (L := #[zT,zT,zT,zT]) rfl (by rfl) (by kernel_rfl) (by rfl) (fun K hK => ?_)
      go_simp
      refine hK _ _ ⟨fun _ h => h, ?_⟩
      clear hK K
      try simp only [Act.put, zp]
      refine doneJ (by kernel_rfl) ?_ _
      gi_wp2
      have hX2 : MBox (V.putObj D (.deferred none)) (w.heap.size + 1 + 1 + 1) ZM := (World.putObj_heap_other (o := .deferred none) (by omega : w.heap.size + 1 + 1 + 1 ≠ D)).trans hXZ
      obtain ⟨⟨k0, k1, k2, k3, k4, k5, k6, k7, k8, k9, k10, k11⟩, kf⟩ := MBox.cells hX2
      refine ⟨by simp, .inl ⟨_, _, rfl, run_takeDeferred hKZ, ?_⟩⟩
      refine ⟨.tuple #[.agg #[.bool ZM.S.s, .slice ZM.S.A ZM.S.n ZM.S.c, .int .i64 ZM.S.e, .bool ZM.W.s, .slice ZM.W.A ZM.W.n ZM.W.c, .int .i64 ZM.W.e, .bool ZM.C.s, .slice ZM.C.A ZM.C.n ZM.C.c, .int .i64 ZM.C.e, .bool ZM.A.s, .slice ZM.A.A ZM.A.n ZM.A.c, .int .i64 ZM.A.e], .int .i64 10], ?_, ZM, 10, rfl, hYZ.trans (belowK_b (w := w) (Nat.le_refl _) _ D _ _ (by omega) hKZ rfl rfl), .inr ⟨rfl, hbad, rfl⟩⟩
      simp only [ZM] at k0 k1 k2 k3 k4 k5 k6 k7 k8 k9 k10 k11
      simp [results, Tryd.f79, go_sem, k0, k1, k2, k3, k4, k5, k6, k7, k8, k9, k10, k11]
      exact ⟨rfl, ⟨rfl, rfl, rfl⟩, rfl, rfl, ⟨rfl, rfl, rfl⟩, rfl, rfl, ⟨rfl, rfl, rfl⟩, rfl, rfl, ⟨rfl, rfl, rfl⟩, rfl⟩
     case pd =>
      go_simp
      refine hK _ _ ⟨fun _ h => h, ?_⟩
      clear hK K
      try simp only [Act.put, zp]
      generalize ((((((((((((U.setCell ⟨w.heap.size + 1 + 1 + 1, 0, none⟩ (.bool false)).setCell ⟨w.heap.size + 1 + 1 + 1, 1, none⟩ (.slice none 0 0)).setCell ⟨w.heap.size + 1 + 1 + 1, 2, none⟩ (.int .i64 0)).setCell ⟨w.heap.size + 1 + 1 + 1, 3, none⟩ (.bool false)).setCell ⟨w.heap.size + 1 + 1 + 1, 4, none⟩ (.slice none 0 0)).setCell ⟨w.heap.size + 1 + 1 + 1, 5, none⟩ (.int .i64 0)).setCell ⟨w.heap.size + 1 + 1 + 1, 6, none⟩ (.bool false)).setCell ⟨w.heap.size + 1 + 1 + 1, 7, none⟩ (.slice none 0 0)).setCell ⟨w.heap.size + 1 + 1 + 1, 8, none⟩ (.int .i64 0)).setCell ⟨w.heap.size + 1 + 1 + 1, 9, none⟩ (.bool false)).setCell ⟨w.heap.size + 1 + 1 + 1, 10, none⟩ (.slice none 0 0)).setCell ⟨w.heap.size + 1 + 1 + 1, 11, none⟩ (.int .i64 0)) = V at *
      clear z0 z1 z2 z3 z4 z5 z6 z7 z8 z9 z10 z11 zf z12 e1 e2
      obtain ⟨e1, e2⟩ := cells1 hec3
      refine stepKJ (i := 1) (L := #[zT,zT,zT,zF]) rfl (by rfl) (by kernel_rfl) (by rfl) (fun K hK => ?_)
      go_simp
      refine hK _ _ ⟨fun _ h => h, ?_⟩
      clear hK K
      try simp only [Act.put, zp]
      refine stepKJ (i := 3) (L := #[zT,zT,zT,zT]) rfl (by rfl) (by kernel_rfl) (by rfl) (fun K hK => ?_)
      go_simp
      refine hK _ _ ⟨fun _ h => h, ?_⟩
      clear hK K
      try simp only [Act.put, zp]
      refine doneJ (by kernel_rfl) ?_ _
      gi_wp2
      have hX2 : MBox (V.putObj D (.deferred none)) (w.heap.size + 1 + 1 + 1) ZM := (World.putObj_heap_other (o := .deferred none) (by omega : w.heap.size + 1 + 1 + 1 ≠ D)).trans hXZ
      obtain ⟨⟨k0, k1, k2, k3, k4, k5, k6, k7, k8, k9, k10, k11⟩, kf⟩ := MBox.cells hX2
      refine ⟨by simp, .inl ⟨_, _, rfl, run_takeDeferred hKZ, ?_⟩⟩
      refine ⟨.tuple #[.agg #[.bool ZM.S.s, .slice ZM.S.A ZM.S.n ZM.S.c, .int .i64 ZM.S.e, .bool ZM.W.s, .slice ZM.W.A ZM.W.n ZM.W.c, .int .i64 ZM.W.e, .bool ZM.C.s, .slice ZM.C.A ZM.C.n ZM.C.c, .int .i64 ZM.C.e, .bool ZM.A.s, .slice ZM.A.A ZM.A.n ZM.A.c, .int .i64 ZM.A.e], .int .i64 10], ?_, ZM, 10, rfl, hYZ.trans (belowK_b (w := w) (Nat.le_refl _) _ D _ _ (by omega) hKZ rfl rfl), .inr ⟨rfl, hbad, rfl⟩⟩
      simp only [ZM] at k0 k1 k2 k3 k4 k5 k6 k7 k8 k9 k10 k11
      simp [results, Tryd.f79, go_sem, k0, k1, k2, k3, k4, k5, k6, k7, k8, k9, k10, k11]
      exact ⟨rfl, ⟨rfl, rfl, rfl⟩, rfl, rfl, ⟨rfl, rfl, rfl⟩, rfl, rfl, ⟨rfl, rfl, rfl⟩, rfl, rfl, ⟨rfl, rfl, rfl⟩, rfl⟩
    case pb =>
     go_simp
     refine hK _ _ ⟨fun _ h => h, ?_⟩
     clear hK K
     try simp only [Act.put, zp]
     refine stepKJ (i := 0) (L := #[zT,zT,zF,zF]) rfl (by rfl) (by kernel_rfl) (by rfl) (fun K hK => ?_)
     go_simp
     refine hK _ _ ⟨fun _ h => h, ?_⟩
     clear hK K
     try simp only [Act.put, zp]
     refine stepKJ (i := 2) (L := #[zT,zT,zT,zF]) rfl (by rfl) (by kernel_rfl) (by rfl) (fun K hK => ?_)
     go_simp
     refine hK _ _ ⟨fun _ h => h, ?_⟩
     clear hK K
     try simp only [Act.put, zp]
     generalize ((((((((((((U.setCell ⟨w.heap.size + 1 + 1 + 1, 0, none⟩ (.bool false)).setCell ⟨w.heap.size + 1 + 1 + 1, 1, none⟩ (.slice none 0 0)).setCell ⟨w.heap.size + 1 + 1 + 1, 2, none⟩ (.int .i64 0)).setCell ⟨w.heap.size + 1 + 1 + 1, 3, none⟩ (.bool false)).setCell ⟨w.heap.size + 1 + 1 + 1, 4, none⟩ (.slice none 0 0)).setCell ⟨w.heap.size + 1 + 1 + 1, 5, none⟩ (.int .i64 0)).setCell ⟨w.heap.size + 1 + 1 + 1, 6, none⟩ (.bool false)).setCell ⟨w.heap.size + 1 + 1 + 1, 7, none⟩ (.slice none 0 0)).setCell ⟨w.heap.size + 1 + 1 + 1, 8, none⟩ (.int .i64 0)).setCell ⟨w.heap.size + 1 + 1 + 1, 9, none⟩ (.bool false)).setCell ⟨w.heap.size + 1 + 1 + 1, 10, none⟩ (.slice none 0 0)).setCell ⟨w.heap.size + 1 + 1 + 1, 11, none⟩ (.int .i64 0)) = V at *
     clear z0 z1 z2 z3 z4 z5 z6 z7 z8 z9 z10 z11 zf z12 e1 e2
     obtain ⟨e1, e2⟩ := cells1 hec3
     refine stepKJ (i := 3) (L := #[zT,zT,zT,zT]) rfl (by rfl) (by kernel_rfl) (by rfl) (fun K hK => ?_)
     go_simp
     refine hK _ _ ⟨fun _ h => h, ?_⟩
     clear hK K
     try simp only [Act.put, zp]
     refine doneJ (by kernel_rfl) ?_ _
     gi_wp2
     have hX2 : MBox (V.putObj D (.deferred none)) (w.heap.size + 1 + 1 + 1) ZM := (World.putObj_heap_other (o := .deferred none) (by omega : w.heap.size + 1 + 1 + 1 ≠ D)).trans hXZ
     obtain ⟨⟨k0, k1, k2, k3, k4, k5, k6, k7, k8, k9, k10, k11⟩, kf⟩ := MBox.cells hX2
     refine ⟨by simp, .inl ⟨_, _, rfl, run_takeDeferred hKZ, ?_⟩⟩
     refine ⟨.tuple #[.agg #[.bool ZM.S.s, .slice ZM.S.A ZM.S.n ZM.S.c, .int .i64 ZM.S.e, .bool ZM.W.s, .slice ZM.W.A ZM.W.n ZM.W.c, .int .i64 ZM.W.e, .bool ZM.C.s, .slice ZM.C.A ZM.C.n ZM.C.c, .int .i64 ZM.C.e, .bool ZM.A.s, .slice ZM.A.A ZM.A.n ZM.A.c, .int .i64 ZM.A.e], .int .i64 10], ?_, ZM, 10, rfl, hYZ.trans (belowK_b (w := w) (Nat.le_refl _) _ D _ _ (by omega) hKZ rfl rfl), .inr ⟨rfl, hbad, rfl⟩⟩
     simp only [ZM] at k0 k1 k2 k3 k4 k5 k6 k7 k8 k9 k10 k11
     simp [results, Tryd.f79, go_sem, k0, k1, k2, k3, k4, k5, k6, k7, k8, k9, k10, k11]
     exact ⟨rfl, ⟨rfl, rfl, rfl⟩, rfl, rfl, ⟨rfl, rfl, rfl⟩, rfl, rfl, ⟨rfl, rfl, rfl⟩, rfl, rfl, ⟨rfl, rfl, rfl⟩, rfl⟩
 case stop =>
  rintro D j pre O W hD hSp hf hK
  exact hf.elim
end Ma
end Go.Proofs.YtbbnbgllgomolaaDoor
namespace Go.Proofs.YtbbnbgllgomolaaDoor
open Go.RowKit
namespace Ma
open Dp Dy
theorem chk_may {m : Mv} (h : m.may) : chkM m = 0 := if_pos h
theorem chk_not {m : Mv} (h : ¬ m.may) : chkM m = 8 := if_neg h
set_option maxHeartbeats 6400000 in
set_option maxRecDepth 100000 in
theorem eachAdd_bad (w : World) (a b : Mv) (hA : MRows w 0 w.heap.size a) (hBb : MRows w 0 w.heap.size b) (h : ¬ (a.may ∧ b.may)) :
  Calls Tryd.prog 79 #[.agg #[.bool a.S.s, .slice a.S.A a.S.n a.S.c, .int .i64 a.S.e, .bool a.W.s, .slice a.W.A a.W.n a.W.c, .int .i64 a.W.e, .bool a.C.s, .slice a.C.A a.C.n a.C.c, .int .i64 a.C.e, .bool a.A.s, .slice a.A.A a.A.n a.A.c, .int .i64 a.A.e], .agg #[.bool b.S.s, .slice b.S.A b.S.n b.S.c, .int .i64 b.S.e, .bool b.W.s, .slice b.W.A b.W.n b.W.c, .int .i64 b.W.e, .bool b.C.s, .slice b.C.A b.C.n b.C.c, .int .i64 b.C.e, .bool b.A.s, .slice b.A.A b.A.n b.A.c, .int .i64 b.A.e], .func (.func 42) #[] #[]] w fun e w' => e = .returned (.tuple #[.agg #[.bool ZM.S.s, .slice ZM.S.A ZM.S.n ZM.S.c, .int .i64 ZM.S.e, .bool ZM.W.s, .slice ZM.W.A ZM.W.n ZM.W.c, .int .i64 ZM.W.e, .bool ZM.C.s, .slice ZM.C.A ZM.C.n ZM.C.c, .int .i64 ZM.C.e, .bool ZM.A.s, .slice ZM.A.A ZM.A.n ZM.A.c, .int .i64 ZM.A.e], .int .i64 8]) ∧ Below w.heap.size w w' := by
 generalize hw : (((w.alloc (.cells #[.bool a.S.s, .slice a.S.A a.S.n a.S.c, .int .i64 a.S.e, .bool a.W.s, .slice a.W.A a.W.n a.W.c, .int .i64 a.W.e, .bool a.C.s, .slice a.C.A a.C.n a.C.c, .int .i64 a.C.e, .bool a.A.s, .slice a.A.A a.A.n a.A.c, .int .i64 a.A.e] 26)).alloc (.cells #[.bool b.S.s, .slice b.S.A b.S.n b.S.c, .int .i64 b.S.e, .bool b.W.s, .slice b.W.A b.W.n b.W.c, .int .i64 b.W.e, .bool b.C.s, .slice b.C.A b.C.n b.C.c, .int .i64 b.C.e, .bool b.A.s, .slice b.A.A b.A.n b.A.c, .int .i64 b.A.e] 26)).alloc (.cells #[.func (.func 42) #[] #[]] 50)).alloc (.cells #[.bool false, .slice none 0 0, .int .i64 0, .bool false, .slice none 0 0, .int .i64 0, .bool false, .slice none 0 0, .int .i64 0, .bool false, .slice none 0 0, .int .i64 0] 26) = w1
 obtain ⟨⟨hM1, hN1, hF1, hZ1⟩, hB1, hlo, hhi⟩ := boxes4x w _ _ _ _ hw
 replace hZ1 : MBox w1 (w.heap.size + 1 + 1 + 1) ZM := hZ1
 replace hA := hA.below hB1 (Nat.le_refl _)
 replace hBb := hBb.below hB1 (Nat.le_refl _)
 obtain ⟨⟨k0, k1, k2, k3, k4, k5, k6, k7, k8, k9, k10, k11⟩, kf⟩ := MBox.cells (m := a) hM1
 go_enter Tryd.func79, Tryd.ntmps79
 by_cases ha : a.may
 · have hka := Lib.hid (chk_may ha)
   have hkb := Lib.hid (chk_not (fun k => h ⟨ha, k⟩))
   clear h ha
   go_wp2_with fail
   try clear hw
   refine (MCheck_any w1 a (hA.more (Nat.le_refl _) (by omega)) 0 hka.out).mono ?_
   rintro e w2 ⟨rfl, hB2⟩
   clear k0 k1 k2 k3 k4 k5 k6 k7 k8 k9 k10 k11 kf
   have hs2 := hB2.size
   replace hZ1 : MBox w2 (w.heap.size + 1 + 1 + 1) ZM := box_on hZ1 hB2 (by omega)
   replace hN1 := box_on hN1 hB2 (by omega)
   replace hB1 := hB1.trans (hB2.mono (by omega))
   obtain ⟨⟨k0, k1, k2, k3, k4, k5, k6, k7, k8, k9, k10, k11⟩, kf⟩ := MBox.cells (m := b) hN1
   go_wp2_with fail
   refine (MCheck_any w2 b ((hBb.below hB2 (by omega)).more (Nat.le_refl _) (by omega)) 8 hkb.out).mono ?_
   rintro e w3 ⟨rfl, hB3⟩
   clear k0 k1 k2 k3 k4 k5 k6 k7 k8 k9 k10 k11 kf
   have hs3 := hB3.size
   replace hZ1 : MBox w3 (w.heap.size + 1 + 1 + 1) ZM := box_on hZ1 hB3 (by omega)
   replace hB1 := hB1.trans (hB3.mono (by omega))
   obtain ⟨⟨z0, z1, z2, z3, z4, z5, z6, z7, z8, z9, z10, z11⟩, zf⟩ := MBox.cells hZ1
   go_wp2
   clear z0 z1 z2 z3 z4 z5 z6 z7 z8 z9 z10 z11 zf
   have hX := MBox.all hZ1 ZM
   have hX2 : MBox ((((((((((((w3.setCell ⟨w.heap.size + 1 + 1 + 1, 0, none⟩ (.bool false)).setCell ⟨w.heap.size + 1 + 1 + 1, 1, none⟩ (.slice none 0 0)).setCell ⟨w.heap.size + 1 + 1 + 1, 2, none⟩ (.int .i64 0)).setCell ⟨w.heap.size + 1 + 1 + 1, 3, none⟩ (.bool false)).setCell ⟨w.heap.size + 1 + 1 + 1, 4, none⟩ (.slice none 0 0)).setCell ⟨w.heap.size + 1 + 1 + 1, 5, none⟩ (.int .i64 0)).setCell ⟨w.heap.size + 1 + 1 + 1, 6, none⟩ (.bool false)).setCell ⟨w.heap.size + 1 + 1 + 1, 7, none⟩ (.slice none 0 0)).setCell ⟨w.heap.size + 1 + 1 + 1, 8, none⟩ (.int .i64 0)).setCell ⟨w.heap.size + 1 + 1 + 1, 9, none⟩ (.bool false)).setCell ⟨w.heap.size + 1 + 1 + 1, 10, none⟩ (.slice none 0 0)).setCell ⟨w.heap.size + 1 + 1 + 1, 11, none⟩ (.int .i64 0)) (w.heap.size + 1 + 1 + 1) ZM := hX
   have hY : Below w.heap.size w ((((((((((((w3.setCell ⟨w.heap.size + 1 + 1 + 1, 0, none⟩ (.bool false)).setCell ⟨w.heap.size + 1 + 1 + 1, 1, none⟩ (.slice none 0 0)).setCell ⟨w.heap.size + 1 + 1 + 1, 2, none⟩ (.int .i64 0)).setCell ⟨w.heap.size + 1 + 1 + 1, 3, none⟩ (.bool false)).setCell ⟨w.heap.size + 1 + 1 + 1, 4, none⟩ (.slice none 0 0)).setCell ⟨w.heap.size + 1 + 1 + 1, 5, none⟩ (.int .i64 0)).setCell ⟨w.heap.size + 1 + 1 + 1, 6, none⟩ (.bool false)).setCell ⟨w.heap.size + 1 + 1 + 1, 7, none⟩ (.slice none 0 0)).setCell ⟨w.heap.size + 1 + 1 + 1, 8, none⟩ (.int .i64 0)).setCell ⟨w.heap.size + 1 + 1 + 1, 9, none⟩ (.bool false)).setCell ⟨w.heap.size + 1 + 1 + 1, 10, none⟩ (.slice none 0 0)).setCell ⟨w.heap.size + 1 + 1 + 1, 11, none⟩ (.int .i64 0)) := below_all hB1 (show w.heap.size ≤ w.heap.size + 1 + 1 + 1 by omega) ZM
   clear hX
   generalize ((((((((((((w3.setCell ⟨w.heap.size + 1 + 1 + 1, 0, none⟩ (.bool false)).setCell ⟨w.heap.size + 1 + 1 + 1, 1, none⟩ (.slice none 0 0)).setCell ⟨w.heap.size + 1 + 1 + 1, 2, none⟩ (.int .i64 0)).setCell ⟨w.heap.size + 1 + 1 + 1, 3, none⟩ (.bool false)).setCell ⟨w.heap.size + 1 + 1 + 1, 4, none⟩ (.slice none 0 0)).setCell ⟨w.heap.size + 1 + 1 + 1, 5, none⟩ (.int .i64 0)).setCell ⟨w.heap.size + 1 + 1 + 1, 6, none⟩ (.bool false)).setCell ⟨w.heap.size + 1 + 1 + 1, 7, none⟩ (.slice none 0 0)).setCell ⟨w.heap.size + 1 + 1 + 1, 8, none⟩ (.int .i64 0)).setCell ⟨w.heap.size + 1 + 1 + 1, 9, none⟩ (.bool false)).setCell ⟨w.heap.size + 1 + 1 + 1, 10, none⟩ (.slice none 0 0)).setCell ⟨w.heap.size + 1 + 1 + 1, 11, none⟩ (.int .i64 0)) = U at *
   obtain ⟨⟨k0, k1, k2, k3, k4, k5, k6, k7, k8, k9, k10, k11⟩, kf⟩ := MBox.cells hX2
   refine bodyPost_ret (v := .tuple #[.agg #[.bool ZM.S.s, .slice ZM.S.A ZM.S.n ZM.S.c, .int .i64 ZM.S.e, .bool ZM.W.s, .slice ZM.W.A ZM.W.n ZM.W.c, .int .i64 ZM.W.e, .bool ZM.C.s, .slice ZM.C.A ZM.C.n ZM.C.c, .int .i64 ZM.C.e, .bool ZM.A.s, .slice ZM.A.A ZM.A.n ZM.A.c, .int .i64 ZM.A.e], .int .i64 8]) (by simp [results, Tryd.results79, go_sem, k0, k1, k2, k3, k4, k5, k6, k7, k8, k9, k10, k11]) rfl ⟨rfl, hY⟩
 · have hka := Lib.hid (chk_not ha)
   clear h ha
   go_wp2_with fail
   try clear hw
   refine (MCheck_any w1 a (hA.more (Nat.le_refl _) (by omega)) 8 hka.out).mono ?_
   rintro e w2 ⟨rfl, hB2⟩
   clear k0 k1 k2 k3 k4 k5 k6 k7 k8 k9 k10 k11 kf
   have hs2 := hB2.size
   replace hZ1 : MBox w2 (w.heap.size + 1 + 1 + 1) ZM := box_on hZ1 hB2 (by omega)
   replace hB1 := hB1.trans (hB2.mono (by omega))
   obtain ⟨⟨z0, z1, z2, z3, z4, z5, z6, z7, z8, z9, z10, z11⟩, zf⟩ := MBox.cells hZ1
   go_wp2
   clear z0 z1 z2 z3 z4 z5 z6 z7 z8 z9 z10 z11 zf
   have hX := MBox.all hZ1 ZM
   have hX2 : MBox ((((((((((((w2.setCell ⟨w.heap.size + 1 + 1 + 1, 0, none⟩ (.bool false)).setCell ⟨w.heap.size + 1 + 1 + 1, 1, none⟩ (.slice none 0 0)).setCell ⟨w.heap.size + 1 + 1 + 1, 2, none⟩ (.int .i64 0)).setCell ⟨w.heap.size + 1 + 1 + 1, 3, none⟩ (.bool false)).setCell ⟨w.heap.size + 1 + 1 + 1, 4, none⟩ (.slice none 0 0)).setCell ⟨w.heap.size + 1 + 1 + 1, 5, none⟩ (.int .i64 0)).setCell ⟨w.heap.size + 1 + 1 + 1, 6, none⟩ (.bool false)).setCell ⟨w.heap.size + 1 + 1 + 1, 7, none⟩ (.slice none 0 0)).setCell ⟨w.heap.size + 1 + 1 + 1, 8, none⟩ (.int .i64 0)).setCell ⟨w.heap.size + 1 + 1 + 1, 9, none⟩ (.bool false)).setCell ⟨w.heap.size + 1 + 1 + 1, 10, none⟩ (.slice none 0 0)).setCell ⟨w.heap.size + 1 + 1 + 1, 11, none⟩ (.int .i64 0)) (w.heap.size + 1 + 1 + 1) ZM := hX
   have hY : Below w.heap.size w ((((((((((((w2.setCell ⟨w.heap.size + 1 + 1 + 1, 0, none⟩ (.bool false)).setCell ⟨w.heap.size + 1 + 1 + 1, 1, none⟩ (.slice none 0 0)).setCell ⟨w.heap.size + 1 + 1 + 1, 2, none⟩ (.int .i64 0)).setCell ⟨w.heap.size + 1 + 1 + 1, 3, none⟩ (.bool false)).setCell ⟨w.heap.size + 1 + 1 + 1, 4, none⟩ (.slice none 0 0)).setCell ⟨w.heap.size + 1 + 1 + 1, 5, none⟩ (.int .i64 0)).setCell ⟨w.heap.size + 1 + 1 + 1, 6, none⟩ (.bool false)).setCell ⟨w.heap.size + 1 + 1 + 1, 7, none⟩ (.slice none 0 0)).setCell ⟨w.heap.size + 1 + 1 + 1, 8, none⟩ (.int .i64 0)).setCell ⟨w.heap.size + 1 + 1 + 1, 9, none⟩ (.bool false)).setCell ⟨w.heap.size + 1 + 1 + 1, 10, none⟩ (.slice none 0 0)).setCell ⟨w.heap.size + 1 + 1 + 1, 11, none⟩ (.int .i64 0)) := below_all hB1 (show w.heap.size ≤ w.heap.size + 1 + 1 + 1 by omega) ZM
   clear hX
   generalize ((((((((((((w2.setCell ⟨w.heap.size + 1 + 1 + 1, 0, none⟩ (.bool false)).setCell ⟨w.heap.size + 1 + 1 + 1, 1, none⟩ (.slice none 0 0)).setCell ⟨w.heap.size + 1 + 1 + 1, 2, none⟩ (.int .i64 0)).setCell ⟨w.heap.size + 1 + 1 + 1, 3, none⟩ (.bool false)).setCell ⟨w.heap.size + 1 + 1 + 1, 4, none⟩ (.slice none 0 0)).setCell ⟨w.heap.size + 1 + 1 + 1, 5, none⟩ (.int .i64 0)).setCell ⟨w.heap.size + 1 + 1 + 1, 6, none⟩ (.bool false)).setCell ⟨w.heap.size + 1 + 1 + 1, 7, none⟩ (.slice none 0 0)).setCell ⟨w.heap.size + 1 + 1 + 1, 8, none⟩ (.int .i64 0)).setCell ⟨w.heap.size + 1 + 1 + 1, 9, none⟩ (.bool false)).setCell ⟨w.heap.size + 1 + 1 + 1, 10, none⟩ (.slice none 0 0)).setCell ⟨w.heap.size + 1 + 1 + 1, 11, none⟩ (.int .i64 0)) = U at *
   obtain ⟨⟨k0, k1, k2, k3, k4, k5, k6, k7, k8, k9, k10, k11⟩, kf⟩ := MBox.cells hX2
   refine bodyPost_ret (v := .tuple #[.agg #[.bool ZM.S.s, .slice ZM.S.A ZM.S.n ZM.S.c, .int .i64 ZM.S.e, .bool ZM.W.s, .slice ZM.W.A ZM.W.n ZM.W.c, .int .i64 ZM.W.e, .bool ZM.C.s, .slice ZM.C.A ZM.C.n ZM.C.c, .int .i64 ZM.C.e, .bool ZM.A.s, .slice ZM.A.A ZM.A.n ZM.A.c, .int .i64 ZM.A.e], .int .i64 8]) (by simp [results, Tryd.results79, go_sem, k0, k1, k2, k3, k4, k5, k6, k7, k8, k9, k10, k11]) rfl ⟨rfl, hY⟩
/-- What mass.Add answers. -/
def DidAdd (w : World) (a b : Mv) (e : Ending) (w' : World) : Prop := ∃ m' code, e = .returned (.tuple #[.agg #[.bool m'.S.s, .slice m'.S.A m'.S.n m'.S.c, .int .i64 m'.S.e, .bool m'.W.s, .slice m'.W.A m'.W.n m'.W.c, .int .i64 m'.W.e, .bool m'.C.s, .slice m'.C.A m'.C.n m'.C.c, .int .i64 m'.C.e, .bool m'.A.s, .slice m'.A.A m'.A.n m'.A.c, .int .i64 m'.A.e], .int .i64 code]) ∧ Below w.heap.size w w' ∧
 ((code = 0 ∧ (a.may ∧ b.may) ∧ ∀ j, j < 4 → (xAdd a b j).2 = 0 ∧ ResV w' w.heap.size (xAdd a b j).1 (m'.get j)) ∨ (code = 10 ∧ (a.may ∧ b.may) ∧ (∃ j, j < 4 ∧ (xAdd a b j).2 ≠ 0) ∧ m' = ZM) ∨ (code = 8 ∧ ¬ (a.may ∧ b.may) ∧ m' = ZM))
theorem eachAdd_any (w : World) (a b : Mv) (hA : MRows w 0 w.heap.size a) (hBb : MRows w 0 w.heap.size b) (hT : Tab w) :
  Calls Tryd.prog 79 #[.agg #[.bool a.S.s, .slice a.S.A a.S.n a.S.c, .int .i64 a.S.e, .bool a.W.s, .slice a.W.A a.W.n a.W.c, .int .i64 a.W.e, .bool a.C.s, .slice a.C.A a.C.n a.C.c, .int .i64 a.C.e, .bool a.A.s, .slice a.A.A a.A.n a.A.c, .int .i64 a.A.e], .agg #[.bool b.S.s, .slice b.S.A b.S.n b.S.c, .int .i64 b.S.e, .bool b.W.s, .slice b.W.A b.W.n b.W.c, .int .i64 b.W.e, .bool b.C.s, .slice b.C.A b.C.n b.C.c, .int .i64 b.C.e, .bool b.A.s, .slice b.A.A b.A.n b.A.c, .int .i64 b.A.e], .func (.func 42) #[] #[]] w (DidAdd w a b) := by
 by_cases h : a.may ∧ b.may
 · refine (eachAdd_ok w a b hA hBb h.1 h.2 hT).mono ?_
   rintro e w' ⟨m', code, h1, h2, h3⟩
   refine ⟨m', code, h1, h2, ?_⟩
   rcases h3 with ⟨h3, h4⟩ | ⟨h3, h4, h5⟩
   · exact .inl ⟨h3, h, h4⟩
   · exact .inr (.inl ⟨h3, h, h4, h5⟩)
 · refine (eachAdd_bad w a b hA hBb h).mono ?_
   rintro e w' ⟨h1, h2⟩
   exact ⟨ZM, 8, h1, h2, .inr (.inr ⟨rfl, h, rfl⟩)⟩
set_option maxHeartbeats 6400000 in
set_option maxRecDepth 100000 in
/-- mass.Add. -/
theorem MAdd_any (w : World) (a b : Mv) (hA : MRows w 0 w.heap.size a) (hBb : MRows w 0 w.heap.size b) (hT : Tab w) :
  Calls Tryd.prog 58 #[.agg #[.bool a.S.s, .slice a.S.A a.S.n a.S.c, .int .i64 a.S.e, .bool a.W.s, .slice a.W.A a.W.n a.W.c, .int .i64 a.W.e, .bool a.C.s, .slice a.C.A a.C.n a.C.c, .int .i64 a.C.e, .bool a.A.s, .slice a.A.A a.A.n a.A.c, .int .i64 a.A.e], .agg #[.bool b.S.s, .slice b.S.A b.S.n b.S.c, .int .i64 b.S.e, .bool b.W.s, .slice b.W.A b.W.n b.W.c, .int .i64 b.W.e, .bool b.C.s, .slice b.C.A b.C.n b.C.c, .int .i64 b.C.e, .bool b.A.s, .slice b.A.A b.A.n b.A.c, .int .i64 b.A.e]] w (DidAdd w a b) := by
 generalize hw : ((w.alloc (.cells #[.bool a.S.s, .slice a.S.A a.S.n a.S.c, .int .i64 a.S.e, .bool a.W.s, .slice a.W.A a.W.n a.W.c, .int .i64 a.W.e, .bool a.C.s, .slice a.C.A a.C.n a.C.c, .int .i64 a.C.e, .bool a.A.s, .slice a.A.A a.A.n a.A.c, .int .i64 a.A.e] 26)).alloc (.cells #[.bool b.S.s, .slice b.S.A b.S.n b.S.c, .int .i64 b.S.e, .bool b.W.s, .slice b.W.A b.W.n b.W.c, .int .i64 b.W.e, .bool b.C.s, .slice b.C.A b.C.n b.C.c, .int .i64 b.C.e, .bool b.A.s, .slice b.A.A b.A.n b.A.c, .int .i64 b.A.e] 26)).alloc (.cells #[.bool false, .slice none 0 0, .int .i64 0, .bool false, .slice none 0 0, .int .i64 0, .bool false, .slice none 0 0, .int .i64 0, .bool false, .slice none 0 0, .int .i64 0] 26) = w1
 obtain ⟨hM1, hN1, hZ1, hB1, hlo, hhi⟩ := boxes3 w _ _ _ hw
 replace hZ1 : MBox w1 (w.heap.size + 1 + 1) ZM := hZ1
 replace hA := hA.below hB1 (Nat.le_refl _)
 replace hBb := hBb.below hB1 (Nat.le_refl _)
 have tT := hT.below hB1 hT.lt
 obtain ⟨⟨k0, k1, k2, k3, k4, k5, k6, k7, k8, k9, k10, k11⟩, kf⟩ := MBox.cells (m := a) hM1
 obtain ⟨⟨z0, z1, z2, z3, z4, z5, z6, z7, z8, z9, z10, z11⟩, zf⟩ := MBox.cells (m := b) hN1
 go_enter Tryd.func58, Tryd.ntmps58
 go_wp2_with fail
 try clear hw
 clear k0 k1 k2 k3 k4 k5 k6 k7 k8 k9 k10 k11 kf z0 z1 z2 z3 z4 z5 z6 z7 z8 z9 z10 z11 zf
 refine (eachAdd_any w1 a b (hA.more (Nat.le_refl _) (by omega)) (hBb.more (Nat.le_refl _) (by omega)) tT).mono ?_
 rintro e V ⟨m', code, rfl, hB2, hres⟩
 have hs2 := hB2.size
 replace hZ1 : MBox V (w.heap.size + 1 + 1) ZM := box_on hZ1 hB2 (by omega)
 replace hB1 := hB1.trans (hB2.mono (by omega))
 obtain ⟨⟨z0, z1, z2, z3, z4, z5, z6, z7, z8, z9, z10, z11⟩, zf⟩ := MBox.cells hZ1
 go_wp2
 clear z0 z1 z2 z3 z4 z5 z6 z7 z8 z9 z10 z11 zf
 have hX := MBox.all hZ1 m'
 have hY := below_all hB1 (show w.heap.size ≤ w.heap.size + 1 + 1 by omega) m'
 have hs := size_all (w := V) (g := w.heap.size + 1 + 1) m'
 have hfar : ∀ k, k ≠ w.heap.size + 1 + 1 → (((((((((((((V.setCell ⟨w.heap.size + 1 + 1, 0, none⟩ (.bool m'.S.s)).setCell ⟨w.heap.size + 1 + 1, 1, none⟩ (.slice m'.S.A m'.S.n m'.S.c)).setCell ⟨w.heap.size + 1 + 1, 2, none⟩ (.int .i64 m'.S.e)).setCell ⟨w.heap.size + 1 + 1, 3, none⟩ (.bool m'.W.s)).setCell ⟨w.heap.size + 1 + 1, 4, none⟩ (.slice m'.W.A m'.W.n m'.W.c)).setCell ⟨w.heap.size + 1 + 1, 5, none⟩ (.int .i64 m'.W.e)).setCell ⟨w.heap.size + 1 + 1, 6, none⟩ (.bool m'.C.s)).setCell ⟨w.heap.size + 1 + 1, 7, none⟩ (.slice m'.C.A m'.C.n m'.C.c)).setCell ⟨w.heap.size + 1 + 1, 8, none⟩ (.int .i64 m'.C.e)).setCell ⟨w.heap.size + 1 + 1, 9, none⟩ (.bool m'.A.s)).setCell ⟨w.heap.size + 1 + 1, 10, none⟩ (.slice m'.A.A m'.A.n m'.A.c)).setCell ⟨w.heap.size + 1 + 1, 11, none⟩ (.int .i64 m'.A.e))).heap[k]? = V.heap[k]? := fun k hk => far_all hk m'
 generalize ((((((((((((V.setCell ⟨w.heap.size + 1 + 1, 0, none⟩ (.bool m'.S.s)).setCell ⟨w.heap.size + 1 + 1, 1, none⟩ (.slice m'.S.A m'.S.n m'.S.c)).setCell ⟨w.heap.size + 1 + 1, 2, none⟩ (.int .i64 m'.S.e)).setCell ⟨w.heap.size + 1 + 1, 3, none⟩ (.bool m'.W.s)).setCell ⟨w.heap.size + 1 + 1, 4, none⟩ (.slice m'.W.A m'.W.n m'.W.c)).setCell ⟨w.heap.size + 1 + 1, 5, none⟩ (.int .i64 m'.W.e)).setCell ⟨w.heap.size + 1 + 1, 6, none⟩ (.bool m'.C.s)).setCell ⟨w.heap.size + 1 + 1, 7, none⟩ (.slice m'.C.A m'.C.n m'.C.c)).setCell ⟨w.heap.size + 1 + 1, 8, none⟩ (.int .i64 m'.C.e)).setCell ⟨w.heap.size + 1 + 1, 9, none⟩ (.bool m'.A.s)).setCell ⟨w.heap.size + 1 + 1, 10, none⟩ (.slice m'.A.A m'.A.n m'.A.c)).setCell ⟨w.heap.size + 1 + 1, 11, none⟩ (.int .i64 m'.A.e)) = U at *
 obtain ⟨⟨k0, k1, k2, k3, k4, k5, k6, k7, k8, k9, k10, k11⟩, kf⟩ := MBox.cells hX
 refine bodyPost_ret (v := .tuple #[.agg #[.bool m'.S.s, .slice m'.S.A m'.S.n m'.S.c, .int .i64 m'.S.e, .bool m'.W.s, .slice m'.W.A m'.W.n m'.W.c, .int .i64 m'.W.e, .bool m'.C.s, .slice m'.C.A m'.C.n m'.C.c, .int .i64 m'.C.e, .bool m'.A.s, .slice m'.A.A m'.A.n m'.A.c, .int .i64 m'.A.e], .int .i64 code]) (by simp [results, Tryd.results58, go_sem, k0, k1, k2, k3, k4, k5, k6, k7, k8, k9, k10, k11]) rfl ⟨m', code, rfl, hY, ?_⟩
 rcases hres with ⟨h1, h2, h3⟩ | h | h
 · refine .inl ⟨h1, h2, fun j hj => ?_⟩
   obtain ⟨y1, y2, y3, y4, y5, y6⟩ := h3 j hj
   have hs' : U.heap.size = V.heap.size := hs
   exact ⟨y1, y2, y3, y4, y5, (ints_blocks y6 (fun k h1 => hfar k (by omega))).more (by omega) (by omega)⟩
 · exact .inr (.inl h)
 · exact .inr (.inr h)
end Ma
end Go.Proofs.YtbbnbgllgomolaaDoor
namespace Go.Proofs.YtbbnbgllgomolaaDoor
open Go.RowKit
namespace Ma
open Dp Dy
theorem ints_rng {w w' : World} {lo hi n : Nat} {k : IntKind} {A : Option Addr} {xs : List Int} (h : Ints w lo hi k A n xs) (hk : ∀ b, lo ≤ b → b < hi → w'.heap[b]? = w.heap[b]?) : Ints w' lo hi k A n xs :=
 ⟨h.len, h.wf, h.big, fun h0 => by
  obtain ⟨b, off, e, h1, h2, hc⟩ := h.row h0
  have h3 := hk b h1 h2
  exact ⟨b, off, e, h1, h2, fun j hj => ⟨by rw [World.cell?_of_block h3]; exact (hc j hj).1, by rw [World.frozen?_of_block h3]; exact (hc j hj).2⟩⟩⟩
end Ma
end Go.Proofs.YtbbnbgllgomolaaDoor