/- headcountref20.TwinPart: a walk (printed by a program of mine). -/
import Derived.Test.YtmbppgjhdcmckaaGreatDoorPsW1
import Derived.Test.YtmbppgjhdcmckaaGreatDoorPsRl
namespace Go.Proofs.YtmbppgjhdcmckaaGreatDoor
open Go.RowKit
namespace Ma
open Dp Dy
set_option maxHeartbeats 25600000 in
set_option maxRecDepth 100000 in
/-- headcountref20.TwinPart. -/
theorem RTwinPart_any (w : World) (p : Pv) (hR : PRows w 0 w.heap.size p) (hn : ∀ x, x < 4 → (p.M.get x).n ≤ 1000000) (hn2 : p.n ≤ 1000000) :
    Calls Tryz.prog 9 #[.agg #[.bool p.M.S.s, .slice p.M.S.A p.M.S.n p.M.S.c, .int .i64 p.M.S.e, .bool p.M.W.s, .slice p.M.W.A p.M.W.n p.M.W.c, .int .i64 p.M.W.e, .bool p.M.C.s, .slice p.M.C.A p.M.C.n p.M.C.c, .int .i64 p.M.C.e, .bool p.M.A.s, .slice p.M.A.A p.M.A.n p.M.A.c, .int .i64 p.M.A.e, .bool p.h, .int .i64 p.mn, .int .i64 p.mx, .slice p.A p.n p.c]] w fun e w' => ∃ q : Pv, e = .returned (.agg #[.bool q.M.S.s, .slice q.M.S.A q.M.S.n q.M.S.c, .int .i64 q.M.S.e, .bool q.M.W.s, .slice q.M.W.A q.M.W.n q.M.W.c, .int .i64 q.M.W.e, .bool q.M.C.s, .slice q.M.C.A q.M.C.n q.M.C.c, .int .i64 q.M.C.e, .bool q.M.A.s, .slice q.M.A.A q.M.A.n q.M.A.c, .int .i64 q.M.A.e, .bool q.h, .int .i64 q.mn, .int .i64 q.mx, .slice q.A q.n q.c]) ∧ TwinP p q ∧ Below w.heap.size w w' ∧ PRows w' w.heap.size w'.heap.size q := by
  generalize hw : (w.alloc (.cells #[.bool p.M.S.s, .slice p.M.S.A p.M.S.n p.M.S.c, .int .i64 p.M.S.e, .bool p.M.W.s, .slice p.M.W.A p.M.W.n p.M.W.c, .int .i64 p.M.W.e, .bool p.M.C.s, .slice p.M.C.A p.M.C.n p.M.C.c, .int .i64 p.M.C.e, .bool p.M.A.s, .slice p.M.A.A p.M.A.n p.M.A.c, .int .i64 p.M.A.e, .bool p.h, .int .i64 p.mn, .int .i64 p.mx, .slice p.A p.n p.c] 30)).alloc (.cells #[.bool false, .slice none 0 0, .int .i64 0, .bool false, .slice none 0 0, .int .i64 0, .bool false, .slice none 0 0, .int .i64 0, .bool false, .slice none 0 0, .int .i64 0, .bool false, .int .i64 0, .int .i64 0, .slice none 0 0] 30) = w1
  obtain ⟨bP, bZ, j1, lo1, hi1⟩ := boxes2 w _ _ hw
  replace bP : PBox w1 w.heap.size p := bP
  replace bZ : PBox w1 (w.heap.size + 1) ZPv := bZ
  replace j1 : Below w.heap.size w w1 := j1
  have S1 : w.heap.size < w1.heap.size := by omega
  have S2 : w.heap.size + 1 < w1.heap.size := by omega
  have NN := Lib.hid hn
  clear hn
  obtain ⟨i0, hi0, hz0, hz1, hz2⟩ := info_parts Pa.infoU32
  go_enter Tryz.func9, Tryz.ntmps9
  have rg_ : w1.rangeAt w.heap.size 0 [.bool p.M.S.s, .slice p.M.S.A p.M.S.n p.M.S.c, .int .i64 p.M.S.e, .bool p.M.W.s, .slice p.M.W.A p.M.W.n p.M.W.c, .int .i64 p.M.W.e, .bool p.M.C.s, .slice p.M.C.A p.M.C.n p.M.C.c, .int .i64 p.M.C.e, .bool p.M.A.s, .slice p.M.A.A p.M.A.n p.M.A.c, .int .i64 p.M.A.e] := PBox.mass bP
  go_wp2_with (first
    | (refine wpList_load_mid rfl 26 (.tmp 3) rfl w.heap.size 0 rfl [.bool p.M.S.s, .slice p.M.S.A p.M.S.n p.M.S.c, .int .i64 p.M.S.e, .bool p.M.W.s, .slice p.M.W.A p.M.W.n p.M.W.c, .int .i64 p.M.W.e, .bool p.M.C.s, .slice p.M.C.A p.M.C.n p.M.C.c, .int .i64 p.M.C.e, .bool p.M.A.s, .slice p.M.A.A p.M.A.n p.M.A.c, .int .i64 p.M.A.e] _ rg_ Tryz.underlying26 rfl (by kernel_rfl) ?_))
  refine (RTwinM_any w1 p.M (PRows.on hR j1).M NN.out).mono ?_
  rintro e' v1 ⟨m', rfl, tm, j2, Rm⟩
  try clear hw
  clear rg_
  replace tm := Lib.hid tm
  have hP := (box_later bP j2 S1)
  have hZ := (box_later bZ j2 S2)
  have hL := (hR.below (later j1 j2) (Nat.le_refl _)).L
  have b0 := (later j1 j2)
  have sV := Below.size j2
  have sW := Below.size (later j1 j2)
  obtain ⟨U, hU, hP1, hbU, hfU, lU, lU'⟩ := mass_into hP m'
  have th_ : v1.there w.heap.size 0 12 := fun j hj => PBox.there hP j (Nat.lt_of_lt_of_le hj (by decide))
  replace hU : v1.setCells w.heap.size 0 (#[.bool m'.S.s, .slice m'.S.A m'.S.n m'.S.c, .int .i64 m'.S.e, .bool m'.W.s, .slice m'.W.A m'.W.n m'.W.c, .int .i64 m'.W.e, .bool m'.C.s, .slice m'.C.A m'.C.n m'.C.c, .int .i64 m'.C.e, .bool m'.A.s, .slice m'.A.A m'.A.n m'.A.c, .int .i64 m'.A.e] : Array Value).toList = U := hU
  have HU := Lib.hid hU
  clear hU
  go_upto_region 2 with (first
    | (refine wpList_store_mid rfl 26 (.tmp 6) (.tmp 5) rfl w.heap.size 0 #[.bool m'.S.s, .slice m'.S.A m'.S.n m'.S.c, .int .i64 m'.S.e, .bool m'.W.s, .slice m'.W.A m'.W.n m'.W.c, .int .i64 m'.W.e, .bool m'.C.s, .slice m'.C.A m'.C.n m'.C.c, .int .i64 m'.C.e, .bool m'.A.s, .slice m'.A.A m'.A.n m'.A.c, .int .i64 m'.A.e] rfl rfl th_ (by kernel_rfl) (all_oneCell_toArray (cells12P_one m')) ?_; rw [HU.out]))
  clear th_ HU
  have b1 := hbU _ _ b0 (Nat.le_refl _)
  have hZ1 := (hfU _ (by omega)).trans hZ
  have hL1 := intsR hL (w' := U) (fun b h1 h2 => hfU b (by omega))
  have Rm1 := rows_rng Rm (w' := U) (fun b h1 h2 => hfU b (by omega))
  clear hP hZ hL b0 Rm hbU hfU
  obtain ⟨M1, hM1⟩ : ∃ q : Pv, q = { p with M := m' } := ⟨_, rfl⟩
  have hPM : PBox U w.heap.size M1 := by rw [hM1]; exact hP1
  have e1 : M1.A = p.A ∧ M1.n = p.n ∧ M1.c = p.c := by rw [hM1]; exact ⟨rfl, rfl, rfl⟩
  have HM1 := Lib.hid hM1
  clear hM1 hP1
  obtain ⟨W2, hW2⟩ : ∃ X, U.alloc (.cells #[] 48) = X := ⟨_, rfl⟩
  have bW2 : Below U.heap.size U W2 := by rw [← hW2]; exact (Below.refl _ _).alloc (Nat.le_refl _) _
  have hPW : PBox W2 w.heap.size M1 := (bW2.block _ (by omega)).trans hPM
  have hown0 : W2.ownsRow U.heap.size 48 1 (.slice (some ⟨U.heap.size, 0, none⟩) 0 0) 0 [] := by rw [← hW2]; exact Pa.own_emptyg U _ U.heap.size _ 1 rfl (Nat.le_refl _)
  have sW2 := bW2.size
  obtain ⟨⟨k0, k1, k2, k3, k4, k5, k6, k7, k8, k9, k10, k11, k12, k13, k14, k15⟩, kf⟩ := PBox.cell hPW
  rw [e1.1, e1.2.1, e1.2.2] at k15
  have hbig := hL1.big
  have hwf := Lib.hid hL1.wf
  have hraw := (hL1.below bW2 (by omega)).raw
  go_wp2_with (first
    | (at_builtin; go_loud (refine wpList_append_raw _ rfl (.tmp 7) (.tmp 9) 22 rfl U.heap.size 48 i0 _ 1 4 Tryz.underlying22 hi0 hz0 hz1 hz2 rfl (by decide) _ _ _ rfl hown0 _ _ _ p.n _ _ rfl hraw ?c1 ?c2 ?c3 ?c4 ?_)))
  case c1 => exact Pa.u32_one _
  case c2 => unfold maxLen; omega
  case c3 => omega
  case c4 => omega
  intro A2 c2 w3 hown hgrow _
  (try simp at hown)
  have hb3 : Below U.heap.size U w3 := bW2.grown hgrow (by omega) (fun q hq => by simp [Value.ownBlock] at hq; omega)
  have hD : Ints w3 U.heap.size w3.heap.size .u32 A2 p.n p.xs := Ints.of_own hown hwf.out hbig
  have s3 := hb3.size
  have hP3 : PBox w3 w.heap.size M1 := (hb3.block _ (by omega)).trans hPM
  have hZ3 := (hb3.block _ (by omega)).trans hZ1
  have Rm3 := Rm1.below hb3 (by omega)
  have b3 := b1.trans (hb3.mono (by omega))
  clear hgrow hown hb3 hPM hPW hown0 hraw hZ1 Rm1 b1 bW2 k0 k1 k2 k3 k4 k5 k6 k7 k8 k9 k10 k11 k12 k13 k14 k15 kf
  try clear hW2
  obtain ⟨U2, hU2, hP4, hbU, hfU, l2, l2'⟩ := part_tags hP3 A2 p.n c2 p.xs
  obtain ⟨Q, hQe⟩ : ∃ q : Pv, q = { M1 with A := A2, n := p.n, c := c2, xs := p.xs } := ⟨_, rfl⟩
  have hPQ : PBox U2 w.heap.size Q := by rw [hQe]; exact hP4
  have HQ := Lib.hid hQe
  obtain ⟨⟨k0, k1, k2, k3, k4, k5, k6, k7, k8, k9, k10, k11, k12, k13, k14, k15⟩, kf⟩ := PBox.cell hP3
  go_upto_region 3 with fail
  try rw [hU2]
  clear hU2 hQe hP4 k0 k1 k2 k3 k4 k5 k6 k7 k8 k9 k10 k11 k12 k13 k14 k15 kf hP3
  have b4 := hbU _ _ b3 (Nat.le_refl _)
  have hZ4 := (hfU _ (by omega)).trans hZ3
  have Rm4 := rows_rng Rm3 (w' := U2) (fun b h1 h2 => hfU b (by omega))
  have hD4 := intsR hD (w' := U2) (fun b h1 h2 => hfU b (by omega))
  clear b3 hZ3 Rm3 hD hbU hfU
  have tw : TwinP p Q := by
    rw [HQ.out, HM1.out]
    exact ⟨tm.out, rfl, rfl, rfl, rfl, rfl⟩
  have RQ : PRows U2 (w.heap.size + 2) U2.heap.size Q := by
    rw [HQ.out, HM1.out]
    exact ⟨Rm4.more (by omega) (by omega), hD4.more (by omega) (by omega)⟩
  clear Rm4 hD4 HM1 HQ
  obtain ⟨U3, hU3, hZ5, hbU, hfU, l3, l3'⟩ := part_into hZ4 Q
  have th_ := PBox.there hZ4
  have rg_ : U2.rangeAt w.heap.size 0 [.bool Q.M.S.s, .slice Q.M.S.A Q.M.S.n Q.M.S.c, .int .i64 Q.M.S.e, .bool Q.M.W.s, .slice Q.M.W.A Q.M.W.n Q.M.W.c, .int .i64 Q.M.W.e, .bool Q.M.C.s, .slice Q.M.C.A Q.M.C.n Q.M.C.c, .int .i64 Q.M.C.e, .bool Q.M.A.s, .slice Q.M.A.A Q.M.A.n Q.M.A.c, .int .i64 Q.M.A.e, .bool Q.h, .int .i64 Q.mn, .int .i64 Q.mx, .slice Q.A Q.n Q.c] := PBox.range hPQ
  replace hU3 : U2.setCells (w.heap.size + 1) 0 (#[.bool Q.M.S.s, .slice Q.M.S.A Q.M.S.n Q.M.S.c, .int .i64 Q.M.S.e, .bool Q.M.W.s, .slice Q.M.W.A Q.M.W.n Q.M.W.c, .int .i64 Q.M.W.e, .bool Q.M.C.s, .slice Q.M.C.A Q.M.C.n Q.M.C.c, .int .i64 Q.M.C.e, .bool Q.M.A.s, .slice Q.M.A.A Q.M.A.n Q.M.A.c, .int .i64 Q.M.A.e, .bool Q.h, .int .i64 Q.mn, .int .i64 Q.mx, .slice Q.A Q.n Q.c] : Array Value).toList = U3 := hU3
  have HU := Lib.hid hU3
  clear hU3
  go_wp2_with (first
    | (refine wpList_load_mid rfl 30 (.tmp 1) rfl w.heap.size 0 rfl [.bool Q.M.S.s, .slice Q.M.S.A Q.M.S.n Q.M.S.c, .int .i64 Q.M.S.e, .bool Q.M.W.s, .slice Q.M.W.A Q.M.W.n Q.M.W.c, .int .i64 Q.M.W.e, .bool Q.M.C.s, .slice Q.M.C.A Q.M.C.n Q.M.C.c, .int .i64 Q.M.C.e, .bool Q.M.A.s, .slice Q.M.A.A Q.M.A.n Q.M.A.c, .int .i64 Q.M.A.e, .bool Q.h, .int .i64 Q.mn, .int .i64 Q.mx, .slice Q.A Q.n Q.c] _ rg_ Tryz.underlying30 rfl (by kernel_rfl) ?_)
    | (refine wpList_store_mid rfl 30 (.tmp 2) (.tmp 12) rfl (w.heap.size + 1) 0 #[.bool Q.M.S.s, .slice Q.M.S.A Q.M.S.n Q.M.S.c, .int .i64 Q.M.S.e, .bool Q.M.W.s, .slice Q.M.W.A Q.M.W.n Q.M.W.c, .int .i64 Q.M.W.e, .bool Q.M.C.s, .slice Q.M.C.A Q.M.C.n Q.M.C.c, .int .i64 Q.M.C.e, .bool Q.M.A.s, .slice Q.M.A.A Q.M.A.n Q.M.A.c, .int .i64 Q.M.A.e, .bool Q.h, .int .i64 Q.mn, .int .i64 Q.mx, .slice Q.A Q.n Q.c] rfl rfl th_ (by kernel_rfl) (all_oneCell_toArray (cells16_one Q)) ?_; rw [HU.out]))
  clear th_ rg_ HU
  have b5 := hbU _ _ b4 (by omega)
  have RQ5 := RQ.rng (w' := U3) (fun b h1 h2 => hfU b (by omega))
  exact bodyPost_ret (results_cell_row Tryz.results9 _ _ (w.heap.size + 1) 30 #[.bool Q.M.S.s, .slice Q.M.S.A Q.M.S.n Q.M.S.c, .int .i64 Q.M.S.e, .bool Q.M.W.s, .slice Q.M.W.A Q.M.W.n Q.M.W.c, .int .i64 Q.M.W.e, .bool Q.M.C.s, .slice Q.M.C.A Q.M.C.n Q.M.C.c, .int .i64 Q.M.C.e, .bool Q.M.A.s, .slice Q.M.A.A Q.M.A.n Q.M.A.c, .int .i64 Q.M.A.e, .bool Q.h, .int .i64 Q.mn, .int .i64 Q.mx, .slice Q.A Q.n Q.c] (0, 0) _ rfl hZ5 Tryz.underlying30 rfl (by kernel_rfl)) rfl ⟨Q, rfl, tw, b5, RQ5.more (by omega) (by omega)⟩
end Ma
end Go.Proofs.YtmbppgjhdcmckaaGreatDoor
