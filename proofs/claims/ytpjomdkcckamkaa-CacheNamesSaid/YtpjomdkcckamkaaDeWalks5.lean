/- Deleting by a predicate that may keep a state: walks. -/
import Derived.Test.YtpjomdkcckamkaaDeWalks4
namespace Go.Proofs.Ytpjomdkcckamkaa
open Go.RowKit Go.Sort Go.Shelf
namespace De
theorem setCells_below {B b : Nat} (hB : B ≤ b) : ∀ (vs : List Value) (o : Nat) (w : World), Below B w (w.setCells b o vs)
  | [], _, w => Below.refl B w
  | v :: r, o, w => by
    rw [World.setCells]
    exact ((Below.refl B w).setCell (p := ⟨b, o, none⟩) hB v).trans (setCells_below hB r (o + 1) _)
theorem clearD (w : World) (ty : TypeId) (b o m c : Nat) (hm : 0 < m) (hc : ∀ j, j < m * 2 → (w.cell? ⟨b, o + j, none⟩).isSome = true) (hf : ∀ j, j < m * 2 → w.frozen? ⟨b, o + j, none⟩ = false) :
    (Builtin.clear_ #[22] ty #[.slice (some ⟨b, o, none⟩) m c]).run Try.prog w = .ok (.tuple #[]) (w.setCells b o (List.replicate (m * 2) (.int .i64 0))) := by
  have hv := Try.zeroValue29
  have hzc : (Builtin.zeroCells (Value.agg #[.int .i64 0, .int .i64 0]).cells m).toList = List.replicate (m * 2) (.int .i64 0) := by
    simp [Builtin.zeroCells, Value.cells]
    apply List.ext_getElem
    · simp
    · intro i h1 h2
      rcases Nat.mod_two_eq_zero_or_one i with h | h <;> simp [h]
  have hst := run_storeCells_cells (P := Try.prog) b o (List.replicate (m * 2) (.int .i64 0)) 0 w (by simpa using hc) (by simpa using hf) (by intro v hv'; rw [List.eq_of_mem_replicate hv']; rfl)
  simp only [Nat.add_zero] at hst
  obtain ⟨m, rfl⟩ : ∃ k, m = k + 1 := ⟨m - 1, by omega⟩
  simp [Builtin.clear_, run_underlying Try.underlying22, hv, hzc, hst]

theorem PredS.setCells {σ : Type} {g : Nat} {cb : Array Value} {base rb : Nat} {row : Option Nat} {Inv : World → σ → Prop} {Ok : Int × Int → Prop} {p : σ → Int × Int → Bool} {st : σ → Int × Int → σ} (hP : PredS g cb base rb row Inv Ok p st) (s : σ) :
    ∀ (vs : List Value) (o : Nat) (w : World), Inv w s → Inv (w.setCells rb o vs) s
  | [], _, _, h => h
  | v :: r, o, w, h => by
    rw [World.setCells]
    exact PredS.setCells hP s r (o + 1) _ (hP.set_ w s ⟨rb, o, none⟩ v rfl h)

def setAt (ys : List (Int × Int)) (i : Nat) (x : Int × Int) : List (Int × Int) := ys.set i x
theorem Descs.set_ {w : World} {rb n : Nat} {off : Nat} {ys : List (Int × Int)} (h : Descs w rb (rb + 1) (some ⟨rb, off, none⟩) n ys) {i : Nat} (hi : i < n) (x : Int × Int) (hx : Rng x) :
    Descs ((w.setCell ⟨rb, off + i * 2, none⟩ (.int .i64 x.1)).setCell ⟨rb, off + i * 2 + 1, none⟩ (.int .i64 x.2)) rb (rb + 1) (some ⟨rb, off, none⟩) n (ys.set i x) := by
  have hl := h.len
  refine ⟨by simp [hl], fun y hy => ?_, h.big, fun h0 => ⟨rb, off, rfl, Nat.le_refl _, by omega, fun j hj => ?_⟩⟩
  · rcases List.mem_or_eq_of_mem_set hy with h1 | h1
    · exact h.wf y h1
    · rw [h1]; exact hx
  · obtain ⟨b', off', e, _, _, hc⟩ := h.row h0
    injection e with e
    injection e with e1 e2
    subst e1
    subst e2
    obtain ⟨⟨a1, a2⟩, a3, a4⟩ := hc j hj
    obtain ⟨⟨b1, b2⟩, b3, b4⟩ := hc i hi
    simp only [World.frozen?_setCell]
    rw [List.getElem?_set]
    by_cases e : i = j
    · subst e
      rw [if_pos rfl, if_pos (by omega)]
      refine ⟨⟨?_, a2⟩, ?_, a4⟩
      · rw [World.cell?_setCell_other _ _ _ _ (fun e => by injection e with _ e2; omega), World.cell?_setCell_same _ _ _ b1]
        rfl
      · have b3' : (w.setCell ⟨rb, off + i * 2, none⟩ (.int .i64 x.1)).cell? ⟨rb, off + i * 2 + 1, none⟩ = some (.int .i64 (ys[i]?.getD (0, 0)).2) := by
          rw [World.cell?_setCell_other _ _ _ _ (fun e => by injection e with _ e2; omega)]
          exact b3
        rw [World.cell?_setCell_same _ _ _ b3']
        rfl
    · rw [if_neg e]
      refine ⟨⟨?_, a2⟩, ?_, a4⟩
      · rw [World.cell?_setCell_other _ _ _ _ (fun e => by injection e with _ e2; omega), World.cell?_setCell_other _ _ _ _ (fun e => by injection e with _ e2; omega)]
        exact a1
      · rw [World.cell?_setCell_other _ _ _ _ (fun e => by injection e with _ e2; omega), World.cell?_setCell_other _ _ _ _ (fun e => by injection e with _ e2; omega)]
        exact a3

def DelPost {σ : Type} (base rb : Nat) (p : σ → Int × Int → Bool) (st : σ → Int × Int → σ) (w : World) (s0 : σ) (A : Option Addr) (c : Nat) (xs : List (Int × Int)) (e : Ending) (w' : World) : Prop :=
  ∃ m, e = .returned (.slice A m c) ∧ m ≤ xs.length ∧ Below base w w' ∧ Descs w' rb (rb + 1) A m (delF p st s0 xs)

set_option maxHeartbeats 1600000 in
/-- slices.DeleteFunc, the first one that goes out at place i. -/
theorem DeleteFunc_some {σ : Type} {g : Nat} {cb : Array Value} {base rb : Nat} {row : Option Nat} {Inv : World → σ → Prop} {Ok : Int × Int → Prop} {p : σ → Int × Int → Bool} {st : σ → Int × Int → σ} (hP : PredS g cb base rb row Inv Ok p st)
    (w : World) (s0 : σ) (hinv : Inv w s0) (hbase : base ≤ w.heap.size) (hrb : rb < w.heap.size) (hbr : base ≤ rb) (off n c : Nat) (xs : List (Int × Int)) (hX : Descs w rb (rb + 1) (some ⟨rb, off, none⟩) n xs) (hok : ∀ x ∈ xs, Ok x) (hnc : n ≤ c)
    (i : Nat) (s1 : σ) (hr : idxG p st s0 xs 0 = ((i : Int), s1)) (hi : i < n) (hs1 : s1 = stF st s0 (xs.take (i + 1))) (hd1 : delF p st s0 (xs.take (i + 1)) = xs.take i) :
    Calls Try.prog 55 #[.slice (some ⟨rb, off, none⟩) n c, .func (.func g) #[] cb] w (DelPost base rb p st w s0 (some ⟨rb, off, none⟩) c xs) := by
  have HR := Lib.hid hr
  have HL := Lib.hid hX.len
  have HOK := Lib.hid hok
  have HS1 := Lib.hid hs1
  have HD1 := Lib.hid hd1
  have eg := hP.enters
  have hbig := hX.big
  clear hr hok hs1 hd1
  have hm1 : ((i : Int) == -1) = false := by rw [beq_eq_false_iff_ne]; omega
  go_enter Try.func55, Try.ntmps55
  go_wp2_with fail
  refine (IndexFunc_any hP _ s0 hinv hbase (by assumption) _ n c xs hX HOK.out i s1 HR.out).mono ?_
  rintro e w1 ⟨rfl, hi1, hb1, hD1⟩
  have HI1 := Lib.hid hi1
  clear hi1 hX hinv
  go_wp2
  go_loopw [5, 6, 7] (fun iv jv _ wr => ∃ i j : Nat, ∃ ys : List (Int × Int), ∃ s : σ, iv = .int .i64 i ∧ jv = .int .i64 j ∧ i < j ∧ j ≤ n ∧ Hid (ys.take i = delF p st s0 (xs.take j)) ∧ Hid (ys.drop j = xs.drop j) ∧ Hid (s = stF st s0 (xs.take j)) ∧ Descs wr rb (rb + 1) (some ⟨rb, off, none⟩) n ys ∧ Hid (Inv wr s) ∧ Below base w wr)
    (fun _ jv _ _ => n - (intOf jv).toNat)
  case atStart => exact ⟨i, i + 1, xs, s1, rfl, by go_num, by omega, by omega, HD1.out.symm, rfl, HS1.out, hD1, HI1, hb1⟩
  case round =>
    clear hD1 HI1 hb1 HD1 HS1 hi hm1
    obtain ⟨i, j, ys, s, rfl, rfl, hij, hjn, htk, hdr, hst, hD, hin, hnx⟩ := hrel
    have hsz := hnx.size
    obtain ⟨b', off', e, _, _, hc⟩ := hD.row (by omega)
    injection e with e
    injection e with e1 e2
    subst e1
    subst e2
    by_cases hlt : j < n
    · obtain ⟨⟨g1, _⟩, g3, _⟩ := hc j hlt
      obtain ⟨⟨f1, f2⟩, f3, f4⟩ := hc i (by omega)
      have hyx : ys[j]?.getD (0, 0) = xs[j]?.getD (0, 0) := by
        have := congrArg (fun l => l[0]?.getD (0, 0)) hdr.out
        simpa using this
      rw [hyx] at g1 g3
      have hm : xs[j]?.getD (0, 0) ∈ xs := by rw [List.getElem?_eq_getElem (by rw [HL.out]; exact hlt)]; exact List.getElem_mem _
      have hrng : Rng (xs[j]?.getD (0, 0)) := by rw [← hyx]; exact hD.at_ j
      have hxj : xs.take (j + 1) = xs.take j ++ [xs[j]?.getD (0, 0)] := by
        rw [List.take_succ_eq_append_getElem (by rw [HL.out]; exact hlt), List.getElem?_eq_getElem (by rw [HL.out]; exact hlt)]
        rfl
      have hdf := delF_snoc p st (xs.take j) s0 (xs[j]?.getD (0, 0))
      have hsf := stF_snoc st (xs.take j) s0 (xs[j]?.getD (0, 0))
      rw [← hxj, ← hst.out] at hdf hsf
      have hdr2 : ys.drop (j + 1) = xs.drop (j + 1) := by
        have := congrArg List.tail hdr.out
        simpa using this
      have hok := HOK.out _ hm
      generalize xs[j]?.getD (0, 0) = x at g1 g3 hrng hdf hsf hok
      obtain ⟨x1, x2⟩ := x
      have hbox := hP.alloc wr s (.cells #[.int .i64 x1, .int .i64 x2] 29) hin.out
      have hcall := hP.call (wr.alloc (.cells #[.int .i64 x1, .int .i64 x2] 29)) s (x1, x2) (by simp; omega) (by simp; omega) hbox hok hrng
      have HC := Lib.hid hcall
      have HDF := Lib.hid hdf
      have HSF := Lib.hid hsf
      have HDR2 := Lib.hid hdr2
      have hi0 : (0 : Int) ≤ (i : Int) := by omega
      have hin2 : (i : Int) < (n : Int) := by omega
      clear hc hyx hm hxj hdf hsf hcall hdr2 hbox hok
      cases hq : p s (x1, x2) with
      | true =>
        have hcall := HC.out
        have hdf := HDF.out
        rw [hq] at hcall hdf
        rw [if_pos rfl, List.append_nil] at hdf
        have HC2 := Lib.hid hcall
        have HDF2 := Lib.hid hdf
        clear hcall hdf hq HC HDF f1 f2 f3 f4
        go_wp2_with fail
        refine HC2.out.mono ?_
        rintro e w2 ⟨rfl, hi2, hg⟩
        have hb2 := ((Below.refl base wr).alloc (by omega) (.cells #[.int .i64 x1, .int .i64 x2] 29)).trans (hP.below hg (by simp; omega))
        have hk2 := hP.kept hg (by simp; omega)
        have hD2 := (hD.keep (w' := wr.alloc (.cells #[.int .i64 x1, .int .i64 x2] 29)) fun q h1 h2 => have h3 : q.block < wr.heap.size := by omega
          ⟨World.cell?_alloc_lt _ _ _ h3, World.frozen?_alloc_past _ _ _ h3⟩).of_keep hk2
        have HI2 := Lib.hid hi2
        clear hi2 hg hk2
        go_wp2
        go_roundw
        case rel => exact ⟨i, j + 1, ys, st s (x1, x2), rfl, by go_num, by omega, by omega, htk.out.trans HDF2.out.symm, HDR2, HSF.out.symm, hD2, HI2, hnx.trans hb2⟩
        case measure => simp [intOf]; omega
      | false =>
        have hcall := HC.out
        have hdf := HDF.out
        rw [hq] at hcall hdf
        rw [if_neg (by simp)] at hdf
        have HC2 := Lib.hid hcall
        have HDF2 := Lib.hid hdf
        clear hcall hdf hq HC HDF
        go_wp2_with fail
        refine HC2.out.mono ?_
        rintro e w2 ⟨rfl, hi2, hg⟩
        have hb2 := ((Below.refl base wr).alloc (by omega) (.cells #[.int .i64 x1, .int .i64 x2] 29)).trans (hP.below hg (by simp; omega))
        have hk2 := hP.kept hg (by simp; omega)
        have hD2 := (hD.keep (w' := wr.alloc (.cells #[.int .i64 x1, .int .i64 x2] 29)) fun q h1 h2 => have h3 : q.block < wr.heap.size := by omega
          ⟨World.cell?_alloc_lt _ _ _ h3, World.frozen?_alloc_past _ _ _ h3⟩).of_keep hk2
        have HI2 := Lib.hid hi2
        have hvb : w2.heap[wr.heap.size]? = some (.cells #[.int .i64 x1, .int .i64 x2] 29 (0, 0)) := by
          rw [hg.block wr.heap.size (by simp) (fun e => by have := hP.lt wr s _ e.symm hin.out; omega)]
          exact heap_alloc_new _ _
        have v1 : w2.cell? ⟨wr.heap.size, 0, none⟩ = some (.int .i64 x1) := by rw [cell_of_row w2 _ 0 _ _ _ hvb]; rfl
        have v2 : w2.cell? ⟨wr.heap.size, 1, none⟩ = some (.int .i64 x2) := by rw [cell_of_row w2 _ 1 _ _ _ hvb]; rfl
        obtain ⟨b', off2, e, _, _, hc2⟩ := hD2.row (by omega)
        injection e with e
        injection e with e1 e2
        subst e1
        subst e2
        obtain ⟨⟨f1, f2⟩, f3, f4⟩ := hc2 i (by omega)
        have hD3 := hD2.set_ (i := i) (by omega) (x1, x2) hrng
        have hI3 := hP.set_ _ (st s (x1, x2)) ⟨rb, off + i * 2 + 1, none⟩ (.int .i64 x2) rfl (hP.set_ w2 (st s (x1, x2)) ⟨rb, off + i * 2, none⟩ (.int .i64 x1) rfl HI2.out)
        have HI3 := Lib.hid hI3
        clear hi2 hg hk2 hvb hc2 hI3 HI2
        go_wp2
        go_roundw
        case rel =>
          refine ⟨i + 1, j + 1, ys.set i (x1, x2), st s (x1, x2), by go_num, by go_num, by omega, by omega, ?_, ?_, HSF.out.symm, hD3, HI3, (hnx.trans hb2).trans (((Below.refl _ _).setCell (p := ⟨rb, off + i * 2, none⟩) (by exact hbr) _).setCell (p := ⟨rb, off + i * 2 + 1, none⟩) (by exact hbr) _)⟩
          · rw [Hid, HDF2.out, ← htk.out, List.take_succ_eq_append_getElem (by simp; have := hD2.len; omega), List.take_set]
            have hi1 : (ys.set i (x1, x2))[i]'(by simp; have := hD2.len; omega) = (x1, x2) := List.getElem_set_self ..
            rw [hi1]
            congr 1
            exact List.set_eq_of_length_le (by simp; omega)
          · rw [Hid, List.drop_set, if_pos (by omega)]
            exact HDR2.out
        case measure => simp [intOf]; omega
    · obtain rfl : j = n := by omega
      have hcl : ∀ ty, (Builtin.clear_ #[22] ty #[.slice (some ⟨rb, off + i * 2, none⟩) (j - i) (c - i)]).run Try.prog wr = .ok (.tuple #[]) (wr.setCells rb (off + i * 2) (List.replicate ((j - i) * 2) (.int .i64 0))) := fun ty =>
        clearD wr ty rb (off + i * 2) (j - i) (c - i) (by omega)
          (fun t ht => by
            obtain ⟨⟨a1, _⟩, a3, _⟩ := hc (i + t / 2) (by omega)
            rcases Nat.mod_two_eq_zero_or_one t with h | h
            · rw [show off + i * 2 + t = off + (i + t / 2) * 2 by omega, a1]; rfl
            · rw [show off + i * 2 + t = off + (i + t / 2) * 2 + 1 by omega, a3]; rfl)
          (fun t ht => by
            obtain ⟨⟨_, a2⟩, _, a4⟩ := hc (i + t / 2) (by omega)
            rcases Nat.mod_two_eq_zero_or_one t with h | h
            · rw [show off + i * 2 + t = off + (i + t / 2) * 2 by omega]; exact a2
            · rw [show off + i * 2 + t = off + (i + t / 2) * 2 + 1 by omega]; exact a4)
      have hfin : Descs (wr.setCells rb (off + i * 2) (List.replicate ((j - i) * 2) (.int .i64 0))) rb (rb + 1) (some ⟨rb, off, none⟩) i (ys.take i) := by
        refine ⟨by have := hD.len; simp; omega, fun y hy => hD.wf y (List.mem_of_mem_take hy), by omega, fun h0 => ⟨rb, off, rfl, Nat.le_refl _, by omega, fun t ht => ?_⟩⟩
        obtain ⟨⟨a1, a2⟩, a3, a4⟩ := hc t (by omega)
        rw [List.getElem?_take, if_pos ht]
        simp only [World.frozen?_setCells]
        refine ⟨⟨?_, a2⟩, ?_, a4⟩
        · rw [World.cell?_setCells_out _ _ _ _ _ (fun _ _ => .inl (by show off + t * 2 < off + i * 2; omega))]
          exact a1
        · rw [World.cell?_setCells_out _ _ _ _ _ (fun _ _ => .inl (by show off + t * 2 + 1 < off + i * 2; omega))]
          exact a3
      have htk2 := htk.out
      rw [List.take_of_length_le (l := xs) (by rw [HL.out]; exact Nat.le_refl _)] at htk2
      have hlen : i ≤ xs.length := by rw [HL.out]; omega
      rw [htk2] at hfin
      have HF := Lib.hid hfin
      have hbf := hnx.trans (setCells_below hbr (List.replicate ((j - i) * 2) (.int .i64 0)) (off + i * 2) wr)
      have hci : ((c : Int) == (i : Int)) = false := by rw [beq_eq_false_iff_ne]; omega
      have hci2 : ¬ c = i := by omega
      clear hc htk hdr hst htk2 hfin
      go_wp2
      go_ret
      exact ⟨i, rfl, hlen, hbf, HF.out⟩

/-- slices.DeleteFunc. -/
theorem DeleteFunc_any {σ : Type} {g : Nat} {cb : Array Value} {base rb : Nat} {row : Option Nat} {Inv : World → σ → Prop} {Ok : Int × Int → Prop} {p : σ → Int × Int → Bool} {st : σ → Int × Int → σ} (hP : PredS g cb base rb row Inv Ok p st)
    (w : World) (s0 : σ) (hinv : Inv w s0) (hbase : base ≤ w.heap.size) (hrb : rb < w.heap.size) (A : Option Addr) (n c : Nat) (hbr : 0 < n → base ≤ rb) (xs : List (Int × Int)) (hX : Descs w rb (rb + 1) A n xs) (hok : ∀ x ∈ xs, Ok x) (hnc : n ≤ c) :
    Calls Try.prog 55 #[.slice A n c, .func (.func g) #[] cb] w (DelPost base rb p st w s0 A c xs) := by
  obtain ⟨r, hr⟩ : ∃ r, idxG p st s0 xs 0 = r := ⟨_, rfl⟩
  obtain ⟨r, s1⟩ := r
  rcases idxG_spec p st xs s0 0 r s1 hr with ⟨rfl, _, h3⟩ | ⟨i, hi, rfl, h2, h3, _⟩
  · have HR := Lib.hid hr
    have H3 := Lib.hid h3
    have HL := Lib.hid hX.len
    have HOK := Lib.hid hok
    clear hr h3 hok
    go_enter Try.func55, Try.ntmps55
    go_wp2_with fail
    refine (IndexFunc_any hP _ s0 hinv hbase (by assumption) _ n c xs hX HOK.out (-1) s1 HR.out).mono ?_
    rintro e w1 ⟨rfl, hi1, hb1, hD1⟩
    have HI1 := Lib.hid hi1
    clear hi1 hX hinv
    go_wp2
    go_ret
    exact ⟨n, rfl, by rw [HL.out]; exact Nat.le_refl _, hb1, by rw [H3.out]; exact hD1⟩
  · have hin : i < n := by rw [hX.len] at hi; exact hi
    obtain ⟨b, off, rfl, h4, h5, _⟩ := hX.row (by omega)
    obtain rfl : rb = b := by omega
    exact DeleteFunc_some hP w s0 hinv hbase hrb (hbr (by omega)) off n c xs hX hok hnc i s1 (by rw [hr, Nat.zero_add]) hin h2 h3
end De
end Go.Proofs.Ytpjomdkcckamkaa
