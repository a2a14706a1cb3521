/- Those that draws choose: the iterator's contract. -/
import Derived.Test.YtpjomdkcckamkaaChWalks1
import Derived.Test.YtpjomdkcckamkaaRoundKit
namespace Go.Proofs.Ytpjomdkcckamkaa
open Go.RowKit Go.Sort Go.Shelf
namespace De
attribute [local go_sem] Oper.semAt_some
theorem cells_obj {o : Obj} (h : o.isCells = true) : ∃ cs t z, o = .cells cs t z := by
  cases o <;> simp_all [Obj.isCells]
theorem Gain.blk {O O' : Nat → Prop} {W W' : World} (h : Gain O O' W W') {b off : Nat} {v : Value} (hb : ¬ O b) (hc : W.cell? ⟨b, off, none⟩ = some v) : W'.heap[b]? = W.heap[b]? := by
  obtain ⟨o, h1, h2⟩ := cells_of_cell hc
  obtain ⟨cs, t, z, rfl⟩ := cells_obj h2
  rw [show W.heap[b]? = _ from h1]
  exact h.same _ _ _ _ hb h1
theorem keepD_of {W W' : World} {rb : Nat} {A : Option Addr} {m : Nat} {xs : List (Int × Int)} (hD : Descs W rb (rb + 1) A m xs) (hk : ∀ off v, W.cell? ⟨rb, off, none⟩ = some v → W'.heap[rb]? = W.heap[rb]?) : Descs W' rb (rb + 1) A m xs := by
  by_cases hm : m = 0
  · subst hm
    rw [hD.zero rfl]
    exact Descs.nil_ ..
  · obtain ⟨b, off, e, h1, h2, hc⟩ := hD.row (by omega)
    obtain rfl : b = rb := by omega
    have hb := hk _ _ (hc 0 (by omega)).1.1
    refine hD.keep fun p hp hl => ?_
    have : p.block = b := by omega
    exact ⟨World.cell?_of_block (by rw [this]; exact hb), World.frozen?_of_block (by rw [this]; exact hb)⟩
theorem Gain.keepD {O O' : Nat → Prop} {W W' : World} (h : Gain O O' W W') {rb : Nat} {A : Option Addr} {m : Nat} {xs : List (Int × Int)} (hD : Descs W rb (rb + 1) A m xs) (hn : ¬ O rb) : Descs W' rb (rb + 1) A m xs :=
  keepD_of hD fun _ _ hc => Gain.blk h hn hc
theorem keepI_of {W W' : World} {rb : Nat} {k : IntKind} {A : Option Addr} {m : Nat} {xs : List Int} (hD : Ints W rb (rb + 1) k A m xs) (hk : ∀ off v, W.cell? ⟨rb, off, none⟩ = some v → W'.heap[rb]? = W.heap[rb]?) : Ints W' rb (rb + 1) k A m xs := by
  refine ⟨hD.len, hD.wf, hD.big, fun h0 => ?_⟩
  obtain ⟨b, off, e, h1, h2, hc⟩ := hD.row h0
  obtain rfl : b = rb := by omega
  have hb := hk _ _ (hc 0 h0).1
  exact ⟨b, off, e, h1, h2, fun j hj => ⟨(World.cell?_of_block hb).trans (hc j hj).1, (World.frozen?_of_block hb).trans (hc j hj).2⟩⟩
theorem Gain.keepI {O O' : Nat → Prop} {W W' : World} (h : Gain O O' W W') {rb : Nat} {k : IntKind} {A : Option Addr} {m : Nat} {xs : List Int} (hD : Ints W rb (rb + 1) k A m xs) (hn : ¬ O rb) : Ints W' rb (rb + 1) k A m xs :=
  keepI_of hD fun _ _ hc => Gain.blk h hn hc
theorem lt_of_heap {W : World} {g : Nat} {o : Obj} (h : W.heap[g]? = some o) : g < W.heap.size := (Array.getElem?_eq_some_iff.1 h).1

def encP (x : Int × Int) : Array Value := #[.agg #[.int .i64 x.1, .int .i64 x.2]]
/-- What the iterator holds when k draws are over. -/
structure ItSt (gl gd db : Nat) (Ad : Option Addr) (nd cd : Nat) (xs : List (Int × Int)) (ds : List Int) (O : Nat → Prop) (k : Nat) (A : Option Addr) (n c rb : Nat) (W : World) : Prop where
  olt : ∀ j, O j → j < W.heap.size
  ogl : ¬ O gl
  ogd : ¬ O gd
  odb : ¬ O db
  orb : ¬ O rb
  gl_ : W.heap[gl]? = some (.cells #[.slice A n c] 22 (0, 0))
  gd_ : W.heap[gd]? = some (.cells #[.slice Ad nd cd] 66 (0, 0))
  rest : Descs W rb (rb + 1) A n (remL xs (ds.take k))
  cap : n ≤ c
  rlt : rb < W.heap.size
  rne : rb ≠ gl
  dne : db ≠ gl
  gne : gd ≠ gl
  draws : Ints W db (db + 1) .u64 Ad nd ds
theorem take_snocI {ds : List Int} {k : Nat} (h : k < ds.length) : ds.take (k + 1) = ds.take k ++ [ds[k]?.getD 0] := by
  rw [List.take_succ_eq_append_getElem h, List.getElem?_eq_getElem h]
  rfl

set_option maxRecDepth 100000 in
set_option maxHeartbeats 2000000 in
/-- choose.chosen's closure. -/
theorem chosen1_in (m l gl gd rb0 db : Nat) (A0 : Option Addr) (n0 c0 : Nat) (xs : List (Int × Int)) (Ad : Option Addr) (nd cd : Nat) (ds : List Int) (hn0 : n0 ≤ 1000000) (hnd : nd ≤ 1000000) (J Jx : List (Int × Int) → (Nat → Prop) → World → Prop) (hJ : Loose gl J)
    (hY : ∀ pre x O W1, J pre O W1 → pre.length < nd → YieldAt Fence.wide (m - 1) Try.prog l (encP x) W1 fun e W' =>
      (e = .returned (.bool true) ∧ ∃ O', J (pre ++ [x]) O' W' ∧ Gain O O' W1 W') ∨ (e = .returned (.bool false) ∧ ∃ O', Jx (pre ++ [x]) O' W'))
    (O0 : Nat → Prop) (W : World) (hS : ItSt gl gd db Ad nd cd xs ds O0 0 A0 n0 c0 rb0 W) (h0 : J [] O0 W) :
    CallsIn Fence.wide m Try.prog 84 #[.func (.yield l) #[] #[], .pointer (some ⟨gd, 0, none⟩), .pointer (some ⟨gl, 0, none⟩)] W fun e W' => (∃ v, e = .returned v) ∧
      ((∃ ys O, ys = chs xs ds ∧ J ys O W') ∨ (∃ pre O, pre <+: chs xs ds ∧ Jx pre O W')) := by
  have HDL := Lib.hid hS.draws.len
  have hgd0 := cell_of_row W gd 0 _ _ _ hS.gd_
  refine callsIn_of_wp Try.func84 rfl trivial ?_ rfl
  simp only [Try.ntmps84, List.size_toArray, List.length_cons, List.length_nil, Nat.reduceAdd, Nat.reduceSub, Array.replicate_succ, Array.replicate_zero, List.push_toArray, List.append_toArray, List.nil_append, List.cons_append]
  gi_wp2
  gi_loopw [9] (fun iv wr => ∃ (k : Nat) (O : Nat → Prop) (A : Option Addr) (n c rb : Nat), iv = .int .i64 k ∧ k ≤ nd ∧ n ≤ 1000000 ∧ J (chs xs (ds.take k)) O wr ∧ ItSt gl gd db Ad nd cd xs ds O k A n c rb wr)
    (fun iv _ => nd - (intOf iv).toNat)
  case atStart => exact ⟨0, O0, A0, n0, c0, rb0, rfl, Nat.zero_le _, hn0, h0, hS⟩
  case round =>
    clear hS h0 hgd0 hn0
    obtain ⟨k, O, A, n, c, rb, rfl, hk, hn, hJs, hI⟩ := hrel
    have g1 := cell_of_row wr gl 0 _ _ _ hI.gl_
    have g2 := frozen_of_row wr gl 0 _ _ hI.gl_
    by_cases hlt : k < nd
    · obtain ⟨bd, offd, rfl, hb1, hb2, hcell⟩ := hI.draws.row (by omega)
      obtain rfl : bd = db := by omega
      obtain ⟨q1, q2⟩ := hcell k hlt
      have hwd : ds[k]?.getD 0 ∈ ds := by
        rw [List.getElem?_eq_getElem (by rw [HDL.out]; exact hlt)]
        exact List.getElem_mem _
      have hd0 : 0 ≤ ds[k]?.getD 0 := by
        have := (hI.draws.wf _ hwd).1
        simpa [IntKind.min, IntKind.signed] using this
      have hd1 : ds[k]?.getD 0 ≤ IntKind.u64.max := (hI.draws.wf _ hwd).2
      have hts := Lib.hid (take_snocI (ds := ds) (k := k) (by rw [HDL.out]; exact hlt))
      clear hcell hwd
      generalize ds[k]?.getD 0 = d at q1 hd0 hd1 hts
      by_cases h0 : n = 0
      · subst h0
        have hz := hI.rest.zero rfl
        gi_wp2
        refine bodyPost_ret (results_none rfl _ _ _) rfl ?_
        have := chs_done hz (ds.drop k)
        rw [List.take_append_drop] at this
        exact ⟨⟨_, rfl⟩, .inl ⟨_, O, rfl, by rw [this]; exact hJs⟩⟩
      · have hp : 0 < n := by omega
        have hne : ((n : Int) == 0) = false := by simp; omega
        have hpk := pick_lt hp d
        have hpe := (pick_eq hp d).symm
        obtain ⟨b, off, rfl, hb3, hb4, hcell⟩ := hI.rest.row hp
        obtain rfl : b = rb := by omega
        obtain ⟨⟨q3, _⟩, q4, _⟩ := hcell (pick n d) hpk
        have hlen := Lib.hid hI.rest.len
        generalize pick n d = at_ at q3 q4 hpk hpe
        generalize hx : (remL xs (ds.take k))[at_]?.getD (0, 0) = x at q3 q4
        have HX := Lib.hid hx
        clear hx hcell
        obtain ⟨fn, tmps, assign, body, hy, hR⟩ := hY _ x O wr hJs (by rw [chs_len]; simp; omega)
        unfold encP at hy
        (try dsimp only at hy)
        have hat0 : (0 : Int) ≤ at_ := by omega
        have hbdlt : bd < wr.heap.size := World.block_lt_of_cell? wr _ q1
        have hstep : Hid (remL xs (ds.take (k + 1)) = (remL xs (ds.take k)).eraseIdx at_) := by
          have hpk' : pick n d = at_ := by
            have := pick_eq hp d
            omega
          rw [Hid, hts.out, remL_snoc, if_neg (fun e => h0 (by rw [← hlen.out, e]; rfl)), hlen.out, hpk']
        have hchs : Hid (chs xs (ds.take (k + 1)) = chs xs (ds.take k) ++ [x]) := by
          have hpk' : pick n d = at_ := by
            have := pick_eq hp d
            omega
          rw [Hid, hts.out, chs_snoc, if_neg (fun e => h0 (by rw [← hlen.out, e]; rfl)), hlen.out, hpk', HX.out]
        have hpre : Hid (chs xs (ds.take k) ++ [x] <+: chs xs ds) := by
          rw [Hid, ← hchs.out, chs_take]
          exact List.take_prefix _ _
        gi_wp2
        refine ⟨(fun h => by cases h), hR.mono ?_⟩
        rintro e W3 (⟨rfl, O', hJ3, hG⟩ | ⟨rfl, O', hJx3⟩)
        · have hs3 := hG.size
          have hgl3 := hG.same _ _ _ _ hI.ogl hI.gl_
          have hgd3 := hG.same _ _ _ _ hI.ogd hI.gd_
          have hD3 := Gain.keepD hG hI.rest hI.orb
          have hE3 := Gain.keepI hG hI.draws hI.odb
          have hglt := lt_of_heap hI.gl_
          have hgdt := lt_of_heap hI.gd_
          have hnew : ∀ j, j < wr.heap.size → ¬ O j → ¬ O' j := fun j hj hn hO => by
            rcases hG.new j hO with h1 | h1
            · exact hn h1
            · omega
          have holt : ∀ j, O' j → j < W3.heap.size := fun j hj => by
            rcases hG.new j hj with h1 | h1
            · exact Nat.lt_of_lt_of_le (hI.olt j h1) hs3
            · exact h1.2
          have r1 := cell_of_row W3 gl 0 _ _ _ hgl3
          have r2 := frozen_of_row W3 gl 0 _ _ hgl3
          have HE := Lib.hid hnew
          have HO := Lib.hid holt
          have hrlt := hI.rlt
          have hcap := hI.cap
          clear g1 g2 q1 q2 q3 q4 hnew holt
          gi_wp2_with fail
          refine ⟨trivial, (fun h => by cases h), (callsIn_wide.2 (without_any W3 b (some ⟨b, off, none⟩) n c _ hD3 (by omega) hcap at_ hpk hn)).mono ?_⟩
          rintro e w4 ⟨A4, c4, rb4, rfl, hc4, hb4, hg4, hrb4, hrb4', hD4⟩
          have hgl4 : w4.heap[gl]? = _ := (hg4.block gl (by omega) (by simp)).trans hgl3
          have hgd4 : w4.heap[gd]? = _ := (hg4.block gd (by omega) (by simp)).trans hgd3
          have hE4 := keepI_of hE3 fun _ _ hc => hg4.block bd (World.block_lt_of_cell? _ _ hc) (by simp)
          have t1 := cell_of_row w4 gl 0 _ _ _ hgl4
          have t2 := frozen_of_row w4 gl 0 _ _ hgl4
          have hJ4 := hJ _ O' W3 w4 none hJ3 hg4 (fun r e => by cases e)
          have hsz4 := hg4.size
          clear r1 r2
          gi_wp2
          have hJ5 := hJ _ O' w4 _ (some gl) hJ4 (grownBy_setCell' w4 gl (.slice A4 (n - 1) c4)) (fun r e => by cases e; rfl)
          have hne1 : rb4 ≠ gl := by
            rcases hrb4 with h | h
            · rw [h]; exact hI.rne
            · omega
          have hnO : ¬ O' rb4 := by
            rcases hrb4 with h | h
            · rw [h]; exact HE.out _ hrlt hI.orb
            · exact fun hO => by have := HO.out _ hO; omega
          go_roundw
          case rel =>
            refine ⟨k + 1, O', A4, n - 1, c4, rb4, by go_num, by omega, by omega, by rw [hchs.out]; exact hJ5, ?_⟩
            exact {
              olt := fun j hj => by have := HO.out j hj; simp [World.setCell]; omega
              ogl := HE.out _ hglt hI.ogl
              ogd := HE.out _ hgdt hI.ogd
              odb := HE.out _ hbdlt hI.odb
              orb := hnO
              gl_ := Boxed.set _ hgl4
              gd_ := (Below.heap_setCell _ _ _ _ hI.gne).trans hgd4
              rest := by rw [hstep.out]; exact hD4.far (by simp; omega) _
              cap := hc4
              rlt := by simpa [World.setCell] using hrb4'
              rne := hne1
              dne := hI.dne
              gne := hI.gne
              draws := keepI_of hE4 fun _ _ _ => Below.heap_setCell _ _ _ _ hI.dne }
          case measure => simp [intOf]; omega
        · gi_wp2
          refine bodyPost_ret (results_none rfl _ _ _) rfl ?_
          exact ⟨⟨_, rfl⟩, .inr ⟨_, O', hpre.out, hJx3⟩⟩
    · obtain rfl : k = nd := by omega
      have he : Hid (ds.take k = ds) := List.take_of_length_le (by rw [HDL.out]; exact Nat.le_refl _)
      rw [he.out] at hJs
      gi_wp2
      go_end0
      exact ⟨⟨_, rfl⟩, .inl ⟨_, O, rfl, hJs⟩⟩

/-- choose.chosen's closure, as the law on ranges asks it. -/
theorem chosen_seq (m gl gd rb0 db : Nat) (A0 : Option Addr) (n0 c0 : Nat) (xs : List (Int × Int)) (Ad : Option Addr) (nd cd : Nat) (ds : List Int) (hn0 : n0 ≤ 1000000) (hnd : nd ≤ 1000000) (w : World)
    (hgl : w.heap[gl]? = some (.cells #[.slice A0 n0 c0] 22 (0, 0))) (hgd : w.heap[gd]? = some (.cells #[.slice Ad nd cd] 66 (0, 0))) (hX : Descs w rb0 (rb0 + 1) A0 n0 xs) (hD : Ints w db (db + 1) .u64 Ad nd ds)
    (hc : n0 ≤ c0) (hr : rb0 < w.heap.size) (hdb : db < w.heap.size) (h1 : rb0 ≠ gl) (h2 : db ≠ gl) (h3 : gd ≠ gl) :
    SeqSep Fence.wide m Try.prog 84 #[.pointer (some ⟨gd, 0, none⟩), .pointer (some ⟨gl, 0, none⟩)] encP (fun ys => ys = chs xs ds) (fun pre => pre <+: chs xs ds) nd (fun k => k = gl ∨ k = gd ∨ k = rb0 ∨ k = db) gl w :=
  fun l J Jx O0 W hW hJ _ hP hO hY h0 => chosen1_in m l gl gd rb0 db A0 n0 c0 xs Ad nd cd ds hn0 hnd J Jx hJ hY O0 W {
      olt := hO
      ogl := hP _ (.inl rfl)
      ogd := hP _ (.inr (.inl rfl))
      odb := hP _ (.inr (.inr (.inr rfl)))
      orb := hP _ (.inr (.inr (.inl rfl)))
      gl_ := (hW.block gl (lt_of_heap hgl)).trans hgl
      gd_ := (hW.block gd (lt_of_heap hgd)).trans hgd
      rest := hX.below hW (by omega)
      cap := hc
      rlt := Nat.lt_of_lt_of_le hr hW.size
      rne := h1
      dne := h2
      gne := h3
      draws := hD.below hW (by omega) } h0

/-- choose.chosen. -/
theorem chosen_any (w : World) (A : Option Addr) (n c : Nat) (B : Option Addr) (m d : Nat) : Calls Try.prog 73 #[.slice A n c, .slice B m d] w fun e w' => e = .returned (.func (.func 84) #[] #[.pointer (some ⟨w.heap.size + 1, 0, none⟩), .pointer (some ⟨w.heap.size, 0, none⟩)]) ∧
    w' = (w.alloc (.cells #[.slice A n c] 22)).alloc (.cells #[.slice B m d] 66) := by
  have hmf : ∀ (fn : Fn) (first cap : Array Value) (w : World), (Instr.makeFunc fn first cap).run Try.prog w = .ok (.func fn first cap) w := fun _ _ _ _ => rfl
  go_enter Try.func73, Try.ntmps73
  go_wp2
  go_ret
  exact ⟨rfl, rfl⟩
end De
end Go.Proofs.Ytpjomdkcckamkaa
