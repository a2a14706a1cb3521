/- headcountref20.Same: a walk (printed by a program of mine). -/
/- past.Same: a walk (printed by a program of mine). -/
/- headcountref20.Great: a walk (printed by a program of mine). -/
/- headcountlaw20.spoil: a walk (printed by a program of mine). -/
/- headcountlaw20.spoilAll: a walk (printed by a program of mine). -/
/- Copies of parts and of lists of them: plain laws, and what a store into another block leaves alone. -/
import Derived.Test.YtbbnbgllgomolaaBx09
import Derived.Test.YtbbnbgllgomolaaBx05
import Derived.Test.YtbbnbgllgomolaaBx10
namespace Go.Proofs.Ytbbnbgllgomolaa
open Go.RowKit
namespace Ma
open Dp Dy
theorem sameF_yes {fs gs : List Fv} (hl : fs.length = gs.length) (h : ∀ j (h1 : j < fs.length) (h2 : j < gs.length), fs[j].e = gs[j].e ∧ sameP fs[j].P gs[j].P = true) : sameF fs gs = true := by
 unfold sameF
 rw [decide_eq_true hl, Bool.true_and, List.all_eq_true]
 intro x hx
 obtain ⟨j, hj, rfl⟩ := List.mem_iff_getElem.1 hx
 rw [List.getElem_zip]
 have h1 : j < fs.length := by rw [List.length_zip] at hj; omega
 have h2 : j < gs.length := by omega
 obtain ⟨k1, k2⟩ := h j h1 h2
 show (decide (fs[j].e = gs[j].e) && sameP fs[j].P gs[j].P) = true
 rw [decide_eq_true k1, k2]
 rfl
theorem sameF_no {fs gs : List Fv} {i : Nat} (h1 : i < fs.length) (h2 : i < gs.length) (h : ¬ (fs[i].e = gs[i].e ∧ sameP fs[i].P gs[i].P = true)) : sameF fs gs = false := by
 cases hx : sameF fs gs
 · rfl
 · exfalso
   unfold sameF at hx
   rw [Bool.and_eq_true, List.all_eq_true] at hx
   have hz : i < (fs.zip gs).length := by rw [List.length_zip]; omega
   have := hx.2 _ (List.getElem_mem hz)
   rw [List.getElem_zip] at this
   have k : (decide (fs[i].e = gs[i].e) && sameP fs[i].P gs[i].P) = true := this
   rw [Bool.and_eq_true, decide_eq_true_eq] at k
   exact h k
theorem sameF_len {fs gs : List Fv} (h : fs.length ≠ gs.length) : sameF fs gs = false := by
 unfold sameF
 rw [decide_eq_false h]
 rfl
set_option maxHeartbeats 51200000 in
set_option maxRecDepth 100000 in
/-- headcountref20.Same. -/
theorem RSameF_any (w : World) (A A' : Option Addr) (n c n' c' : Nat) (fs gs : List Fv) (hL : LFs w 0 w.heap.size A n fs) (hL' : LFs w 0 w.heap.size A' n' gs) (r : Bool) (hr : sameF fs gs = r) :
  Calls Try.prog 18 #[.slice A n c, .slice A' n' c'] w fun e w' => e = .returned (.bool r) ∧ Below w.heap.size w w' := by
 have HL := Lib.hid hL.len
 have HL' := Lib.hid hL'.len
 have HR := Lib.hid hr
 have hbig := hL.big
 have hbig' := hL'.big
 clear hr
 go_enter Try.func18, Try.ntmps18
 by_cases hnn : n = n'
 rotate_left
 · have hr' : r = false := by rw [← HR.out]; exact sameF_len (by rw [HL.out, HL'.out]; exact hnn)
   subst hr'
   have hnb : ((n : Int) != (n' : Int)) = true := by
    have : (n : Int) ≠ (n' : Int) := by omega
    simpa using this
   clear HR
   go_wp2
   go_ret
   exact ⟨rfl, Below.refl _ _⟩
 · subst hnn
   go_wp2
   go_loopw [4, 5] (fun ev iv wr => ∃ i : Nat, iv = .int .i64 i ∧ ev = .bool false ∧ i ≤ n ∧ Below w.heap.size w wr ∧ Hid (∀ j (h1 : j < fs.length) (h2 : j < gs.length), j < i → fs[j].e = gs[j].e ∧ sameP fs[j].P gs[j].P = true)) (fun _ iv _ => n - (intOf iv).toNat)
   case atStart => exact ⟨0, rfl, rfl, Nat.zero_le _, Below.refl _ _, Lib.hid fun _ _ _ h => absurd h (Nat.not_lt_zero _)⟩
   case round =>
    obtain ⟨i, rfl, rfl, hi1, hb, hall⟩ := hrel
    by_cases hi : i < n
    rotate_left
    · have hr' : r = true := by
        rw [← HR.out]
        exact sameF_yes (HL.out.trans HL'.out.symm) fun j h1 h2 => hall.out j h1 h2 (by have := HL.out; omega)
      subst hr'
      go_wp2
      go_ret
      exact ⟨rfl, hb⟩
    · have hi2 : i < fs.length := by rw [HL.out]; exact hi
      have hi3 : i < gs.length := by rw [HL'.out]; exact hi
      obtain ⟨b, off, hA, hb1, hb2, hc⟩ := (hL.below hb (Nat.le_refl _)).row (by omega)
      obtain ⟨b', off', hA', hb1', hb2', hc'⟩ := (hL'.below hb (Nat.le_refl _)).row (by omega)
      have hci := Lib.hid (hc i hi2)
      have hdi := Lib.hid (hc' i hi3)
      have hri := (hL.below hb (Nat.le_refl _)).rows i hi2
      have hsi := (hL'.below hb (Nat.le_refl _)).rows i hi3
      obtain ⟨f, hf⟩ : ∃ f, fs[i] = f := ⟨_, rfl⟩
      obtain ⟨h, hh⟩ : ∃ f, gs[i] = f := ⟨_, rfl⟩
      rw [hf] at hci hri
      rw [hh] at hdi hsi
      have HF := Lib.hid hf
      have HH := Lib.hid hh
      have hwrj : IntKind.i64.wrap ((i : Int) + 1) = ((i + 1 : Nat) : Int) := by rw [IntKind.wrap_i64]; omega
      clear hc hc' hf hh
      subst hA hA'
      have lw := hb.size
      go_wp2_with fail
      refine region_E (Keeps wr) [] (m := 25) (L := #[zF,zF,zF,zF,zF,zF,zF,zF,zF,zF,zF,zF,zF,zF,zF,zF,zF,zF,zF,zF,zF,zF,zF,zF,zF]) (by kernel_rfl) (by rfl) (by rfl) ?_
      have kp0 : Keeps wr wr.drew := fun _ _ => rfl
      have b0 : Below wr.heap.size wr wr.drew := (Below.refl _ _).drew
      have hbw : b < wr.heap.size := by omega
      have hbw' : b' < wr.heap.size := by omega
      generalize wr.drew = v0 at *
      refine zE 0 #[zT,zF,zF,zF,zF,zF,zF,zF,zF,zF,zF,zF,zF,zF,zF,zF,zF,zF,zF,zF,zF,zF,zF,zF,zF] ?_ rfl ?hy1 ?rest1
      case hy1 => intro w; go_simp; (try with_reducible rfl)
      try simp only [Act.put, zp]
      refine zE 1 #[zT,zT,zF,zF,zF,zF,zF,zF,zF,zF,zF,zF,zF,zF,zF,zF,zF,zF,zF,zF,zF,zF,zF,zF,zF] ?_ rfl ?hy2 ?rest2
      case hy2 => intro w; go_simp; (try with_reducible rfl)
      try simp only [Act.put, zp]
      refine zE 2 #[zT,zT,zT,zF,zF,zF,zF,zF,zF,zF,zF,zF,zF,zF,zF,zF,zF,zF,zF,zF,zF,zF,zF,zF,zF] ?_ rfl ?hy3 ?rest3
      case hy3 => intro w; go_simp; (try with_reducible rfl)
      try simp only [Act.put, zp]
      refine zE 3 #[zT,zT,zT,zT,zF,zF,zF,zF,zF,zF,zF,zF,zF,zF,zF,zF,zF,zF,zF,zF,zF,zF,zF,zF,zF] ?_ rfl ?hy4 ?rest4
      case hy4 => intro w; go_simp; (try with_reducible rfl)
      try simp only [Act.put, zp]
      refine readE (i := 4) (L := #[zT,zT,zT,zT,zT,zF,zF,zF,zF,zF,zF,zF,zF,zF,zF,zF,zF,zF,zF,zF,zF,zF,zF,zF,zF]) (v := .int .i64 f.e) rfl (by rfl) (by kernel_rfl) (by kernel_rfl) (by kernel_rfl) (fun _ _ _ h => h) (by assumption) (by rfl) ?y4_ ?z4_
      case y4_ =>
       intro w' h1
       have k_ := (hci.out.blk (h1 _ hbw)).1
       go_simp
      try simp only [Act.put, zp]
      refine zE 5 #[zT,zT,zT,zT,zT,zT,zF,zF,zF,zF,zF,zF,zF,zF,zF,zF,zF,zF,zF,zF,zF,zF,zF,zF,zF] ?_ rfl ?hy6 ?rest6
      case hy6 => intro w; go_simp; (try with_reducible rfl)
      try simp only [Act.put, zp]
      refine zE 6 #[zT,zT,zT,zT,zT,zT,zT,zF,zF,zF,zF,zF,zF,zF,zF,zF,zF,zF,zF,zF,zF,zF,zF,zF,zF] ?_ rfl ?hy7 ?rest7
      case hy7 => intro w; go_simp; (try with_reducible rfl)
      try simp only [Act.put, zp]
      refine zE 7 #[zT,zT,zT,zT,zT,zT,zT,zT,zF,zF,zF,zF,zF,zF,zF,zF,zF,zF,zF,zF,zF,zF,zF,zF,zF] ?_ rfl ?hy8 ?rest8
      case hy8 => intro w; go_simp; (try with_reducible rfl)
      try simp only [Act.put, zp]
      refine zE 8 #[zT,zT,zT,zT,zT,zT,zT,zT,zT,zF,zF,zF,zF,zF,zF,zF,zF,zF,zF,zF,zF,zF,zF,zF,zF] ?_ rfl ?hy9 ?rest9
      case hy9 => intro w; go_simp; (try with_reducible rfl)
      try simp only [Act.put, zp]
      refine readE (i := 9) (L := #[zT,zT,zT,zT,zT,zT,zT,zT,zT,zT,zF,zF,zF,zF,zF,zF,zF,zF,zF,zF,zF,zF,zF,zF,zF]) (v := .int .i64 h.e) rfl (by rfl) (by kernel_rfl) (by kernel_rfl) (by kernel_rfl) (fun _ _ _ h => h) (by assumption) (by rfl) ?y9_ ?z9_
      case y9_ =>
       intro w' h1
       have k_ := (hdi.out.blk (h1 _ hbw')).1
       go_simp
      try simp only [Act.put, zp]
      by_cases he : f.e = h.e
      rotate_left
      · have heb : (f.e != h.e) = true := by simpa using he
        have hr' : r = false := by
         rw [← HR.out]
         exact sameF_no hi2 hi3 (by rw [HF.out, HH.out]; exact fun k => he k.1)
        subst hr'
        refine zE 10 #[zT,zT,zT,zT,zT,zT,zT,zT,zT,zT,zT,zF,zF,zF,zF,zF,zF,zF,zF,zF,zF,zF,zF,zF,zF] ?_ rfl ?hy11 ?rest11
        case hy11 => intro w; go_simp; (try with_reducible rfl)
        try simp only [Act.put, zp]
        refine zE 11 #[zT,zT,zT,zT,zT,zT,zT,zT,zT,zT,zT,zT,zF,zF,zF,zF,zF,zF,zF,zF,zF,zF,zF,zF,zF] ?_ rfl ?hy12 ?rest12
        case hy12 => intro w; go_simp; (try with_reducible rfl)
        try simp only [Act.put, zp]
        refine skipE (i := 12) (L := #[zT,zT,zT,zT,zT,zT,zT,zT,zT,zT,zT,zT,zT,zF,zF,zF,zF,zF,zF,zF,zF,zF,zF,zF,zF]) rfl (by rfl) (by kernel_rfl) (by kernel_rfl) (by kernel_rfl) (fun _ _ _ h => h) (by rfl) ?_
        try simp only [Act.put, zp]
        refine skipE (i := 13) (L := #[zT,zT,zT,zT,zT,zT,zT,zT,zT,zT,zT,zT,zT,zT,zF,zF,zF,zF,zF,zF,zF,zF,zF,zF,zF]) rfl (by rfl) (by kernel_rfl) (by kernel_rfl) (by kernel_rfl) (fun _ _ _ h => h) (by rfl) ?_
        try simp only [Act.put, zp]
        refine skipE (i := 14) (L := #[zT,zT,zT,zT,zT,zT,zT,zT,zT,zT,zT,zT,zT,zT,zT,zF,zF,zF,zF,zF,zF,zF,zF,zF,zF]) rfl (by rfl) (by kernel_rfl) (by kernel_rfl) (by kernel_rfl) (fun _ _ _ h => h) (by rfl) ?_
        try simp only [Act.put, zp]
        refine skipE (i := 15) (L := #[zT,zT,zT,zT,zT,zT,zT,zT,zT,zT,zT,zT,zT,zT,zT,zT,zF,zF,zF,zF,zF,zF,zF,zF,zF]) rfl (by rfl) (by kernel_rfl) (by kernel_rfl) (by kernel_rfl) (fun _ _ _ h => h) (by rfl) ?_
        try simp only [Act.put, zp]
        refine skipE (i := 16) (L := #[zT,zT,zT,zT,zT,zT,zT,zT,zT,zT,zT,zT,zT,zT,zT,zT,zT,zF,zF,zF,zF,zF,zF,zF,zF]) rfl (by rfl) (by kernel_rfl) (by kernel_rfl) (by kernel_rfl) (fun _ _ _ h => h) (by rfl) ?_
        try simp only [Act.put, zp]
        refine skipE (i := 17) (L := #[zT,zT,zT,zT,zT,zT,zT,zT,zT,zT,zT,zT,zT,zT,zT,zT,zT,zT,zF,zF,zF,zF,zF,zF,zF]) rfl (by rfl) (by kernel_rfl) (by kernel_rfl) (by kernel_rfl) (fun _ _ _ h => h) (by rfl) ?_
        try simp only [Act.put, zp]
        refine skipE (i := 18) (L := #[zT,zT,zT,zT,zT,zT,zT,zT,zT,zT,zT,zT,zT,zT,zT,zT,zT,zT,zT,zF,zF,zF,zF,zF,zF]) rfl (by rfl) (by kernel_rfl) (by kernel_rfl) (by kernel_rfl) (fun _ _ _ h => h) (by rfl) ?_
        try simp only [Act.put, zp]
        refine skipE (i := 19) (L := #[zT,zT,zT,zT,zT,zT,zT,zT,zT,zT,zT,zT,zT,zT,zT,zT,zT,zT,zT,zT,zF,zF,zF,zF,zF]) rfl (by rfl) (by kernel_rfl) (by kernel_rfl) (by kernel_rfl) (fun _ _ _ h => h) (by rfl) ?_
        try simp only [Act.put, zp]
        refine skipE (i := 20) (L := #[zT,zT,zT,zT,zT,zT,zT,zT,zT,zT,zT,zT,zT,zT,zT,zT,zT,zT,zT,zT,zT,zF,zF,zF,zF]) rfl (by rfl) (by kernel_rfl) (by kernel_rfl) (by kernel_rfl) (fun _ _ _ h => h) (by rfl) ?_
        try simp only [Act.put, zp]
        refine skipE (i := 21) (L := #[zT,zT,zT,zT,zT,zT,zT,zT,zT,zT,zT,zT,zT,zT,zT,zT,zT,zT,zT,zT,zT,zT,zF,zF,zF]) rfl (by rfl) (by kernel_rfl) (by kernel_rfl) (by kernel_rfl) (fun _ _ _ h => h) (by rfl) ?_
        try simp only [Act.put, zp]
        refine skipE (i := 22) (L := #[zT,zT,zT,zT,zT,zT,zT,zT,zT,zT,zT,zT,zT,zT,zT,zT,zT,zT,zT,zT,zT,zT,zT,zF,zF]) rfl (by rfl) (by kernel_rfl) (by kernel_rfl) (by kernel_rfl) (fun _ _ _ h => h) (by rfl) ?_
        try simp only [Act.put, zp]
        refine skipE (i := 23) (L := #[zT,zT,zT,zT,zT,zT,zT,zT,zT,zT,zT,zT,zT,zT,zT,zT,zT,zT,zT,zT,zT,zT,zT,zT,zF]) rfl (by rfl) (by kernel_rfl) (by kernel_rfl) (by kernel_rfl) (fun _ _ _ h => h) (by rfl) ?_
        try simp only [Act.put, zp]
        refine zE 24 #[zT,zT,zT,zT,zT,zT,zT,zT,zT,zT,zT,zT,zT,zT,zT,zT,zT,zT,zT,zT,zT,zT,zT,zT,zT] ?_ rfl ?hy13 ?rest13
        case hy13 => intro w; go_simp; (try with_reducible rfl)
        try simp only [Act.put, zp]
        refine doneE (by kernel_rfl) ?_ _
        clear heb
        go_wp2
        go_ret
        exact ⟨rfl, hb.trans (b0.mono lw)⟩
      · have heb : (f.e != h.e) = false := by simpa using he
        refine zE 10 #[zT,zT,zT,zT,zT,zT,zT,zT,zT,zT,zT,zF,zF,zF,zF,zF,zF,zF,zF,zF,zF,zF,zF,zF,zF] ?_ rfl ?hy14 ?rest14
        case hy14 => intro w; go_simp; (try with_reducible rfl)
        try simp only [Act.put, zp]
        refine zE 11 #[zT,zT,zT,zT,zT,zT,zT,zT,zT,zT,zT,zT,zF,zF,zF,zF,zF,zF,zF,zF,zF,zF,zF,zF,zF] ?_ rfl ?hy15 ?rest15
        case hy15 => intro w; go_simp; (try with_reducible rfl)
        try simp only [Act.put, zp]
        clear heb
        refine zE 12 #[zT,zT,zT,zT,zT,zT,zT,zT,zT,zT,zT,zT,zT,zF,zF,zF,zF,zF,zF,zF,zF,zF,zF,zF,zF] ?_ rfl ?hy16 ?rest16
        case hy16 => intro w; go_simp; (try with_reducible rfl)
        try simp only [Act.put, zp]
        refine zE 13 #[zT,zT,zT,zT,zT,zT,zT,zT,zT,zT,zT,zT,zT,zT,zF,zF,zF,zF,zF,zF,zF,zF,zF,zF,zF] ?_ rfl ?hy17 ?rest17
        case hy17 => intro w; go_simp; (try with_reducible rfl)
        try simp only [Act.put, zp]
        refine zE 14 #[zT,zT,zT,zT,zT,zT,zT,zT,zT,zT,zT,zT,zT,zT,zT,zF,zF,zF,zF,zF,zF,zF,zF,zF,zF] ?_ rfl ?hy18 ?rest18
        case hy18 => intro w; go_simp; (try with_reducible rfl)
        try simp only [Act.put, zp]
        refine zE 15 #[zT,zT,zT,zT,zT,zT,zT,zT,zT,zT,zT,zT,zT,zT,zT,zT,zF,zF,zF,zF,zF,zF,zF,zF,zF] ?_ rfl ?hy19 ?rest19
        case hy19 => intro w; go_simp; (try with_reducible rfl)
        try simp only [Act.put, zp]
        refine readE (i := 16) (L := #[zT,zT,zT,zT,zT,zT,zT,zT,zT,zT,zT,zT,zT,zT,zT,zT,zT,zF,zF,zF,zF,zF,zF,zF,zF]) (v := .agg #[.bool f.P.M.S.s, .slice f.P.M.S.A f.P.M.S.n f.P.M.S.c, .int .i64 f.P.M.S.e, .bool f.P.M.W.s, .slice f.P.M.W.A f.P.M.W.n f.P.M.W.c, .int .i64 f.P.M.W.e, .bool f.P.M.C.s, .slice f.P.M.C.A f.P.M.C.n f.P.M.C.c, .int .i64 f.P.M.C.e, .bool f.P.M.A.s, .slice f.P.M.A.A f.P.M.A.n f.P.M.A.c, .int .i64 f.P.M.A.e, .bool f.P.h, .int .i64 f.P.mn, .int .i64 f.P.mx, .slice f.P.A f.P.n f.P.c]) rfl (by rfl) (by kernel_rfl) (by kernel_rfl) (by kernel_rfl) (fun _ _ _ h => h) (by assumption) (by rfl) ?y16_ ?z16_
        case y16_ =>
         intro w' h1
         obtain ⟨k_, k0, k1, k2, k3, k4, k5, k6, k7, k8, k9, k10, k11, k12, k13, k14, k15⟩ := hci.out.blk (h1 _ hbw)
         go_simp
        try simp only [Act.put, zp]
        refine zE 17 #[zT,zT,zT,zT,zT,zT,zT,zT,zT,zT,zT,zT,zT,zT,zT,zT,zT,zT,zF,zF,zF,zF,zF,zF,zF] ?_ rfl ?hy21 ?rest21
        case hy21 => intro w; go_simp; (try with_reducible rfl)
        try simp only [Act.put, zp]
        refine zE 18 #[zT,zT,zT,zT,zT,zT,zT,zT,zT,zT,zT,zT,zT,zT,zT,zT,zT,zT,zT,zF,zF,zF,zF,zF,zF] ?_ rfl ?hy22 ?rest22
        case hy22 => intro w; go_simp; (try with_reducible rfl)
        try simp only [Act.put, zp]
        refine zE 19 #[zT,zT,zT,zT,zT,zT,zT,zT,zT,zT,zT,zT,zT,zT,zT,zT,zT,zT,zT,zT,zF,zF,zF,zF,zF] ?_ rfl ?hy23 ?rest23
        case hy23 => intro w; go_simp; (try with_reducible rfl)
        try simp only [Act.put, zp]
        refine zE 20 #[zT,zT,zT,zT,zT,zT,zT,zT,zT,zT,zT,zT,zT,zT,zT,zT,zT,zT,zT,zT,zT,zF,zF,zF,zF] ?_ rfl ?hy24 ?rest24
        case hy24 => intro w; go_simp; (try with_reducible rfl)
        try simp only [Act.put, zp]
        refine readE (i := 21) (L := #[zT,zT,zT,zT,zT,zT,zT,zT,zT,zT,zT,zT,zT,zT,zT,zT,zT,zT,zT,zT,zT,zT,zF,zF,zF]) (v := .agg #[.bool h.P.M.S.s, .slice h.P.M.S.A h.P.M.S.n h.P.M.S.c, .int .i64 h.P.M.S.e, .bool h.P.M.W.s, .slice h.P.M.W.A h.P.M.W.n h.P.M.W.c, .int .i64 h.P.M.W.e, .bool h.P.M.C.s, .slice h.P.M.C.A h.P.M.C.n h.P.M.C.c, .int .i64 h.P.M.C.e, .bool h.P.M.A.s, .slice h.P.M.A.A h.P.M.A.n h.P.M.A.c, .int .i64 h.P.M.A.e, .bool h.P.h, .int .i64 h.P.mn, .int .i64 h.P.mx, .slice h.P.A h.P.n h.P.c]) rfl (by rfl) (by kernel_rfl) (by kernel_rfl) (by kernel_rfl) (fun _ _ _ h => h) (by assumption) (by rfl) ?y21_ ?z21_
        case y21_ =>
         intro w' h1
         obtain ⟨k_, k0, k1, k2, k3, k4, k5, k6, k7, k8, k9, k10, k11, k12, k13, k14, k15⟩ := hdi.out.blk (h1 _ hbw')
         go_simp
        try simp only [Act.put, zp]
        obtain ⟨q, hq⟩ : ∃ q, sameP f.P h.P = q := ⟨_, rfl⟩
        have HQ := Lib.hid hq
        clear hq
        refine stepK (i := 22) (L := #[zT,zT,zT,zT,zT,zT,zT,zT,zT,zT,zT,zT,zT,zT,zT,zT,zT,zT,zT,zT,zT,zT,zT,zF,zF]) rfl (by rfl) (by kernel_rfl) (by rfl) (fun K hK => ?_)
        go_simp
        go_at_call 19
        refine (RSamePart_any v0 f.P h.P ((hri.more (Nat.le_refl _) lw).on b0) ((hsi.more (Nat.le_refl _) lw).on b0) q HQ.out).mono ?_
        rintro e' v1 ⟨rfl, j1⟩
        have b1 := later b0 j1
        have hb5 := hb.trans (b1.mono lw)
        refine hK _ _ ⟨fun _ _ => fun p hp => b1.block p hp, ?_⟩
        clear hK K kp0
        try simp only [Act.put, zp]
        cases q
        · have hr' : r = false := by
            rw [← HR.out]
            exact sameF_no hi2 hi3 (by rw [HF.out, HH.out, HQ.out]; exact fun k => by cases k.2)
          subst hr'
          refine zE 23 #[zT,zT,zT,zT,zT,zT,zT,zT,zT,zT,zT,zT,zT,zT,zT,zT,zT,zT,zT,zT,zT,zT,zT,zT,zF] ?_ rfl ?hy27 ?rest27
          case hy27 => intro w; go_simp; (try with_reducible rfl)
          try simp only [Act.put, zp]
          refine zE 24 #[zT,zT,zT,zT,zT,zT,zT,zT,zT,zT,zT,zT,zT,zT,zT,zT,zT,zT,zT,zT,zT,zT,zT,zT,zT] ?_ rfl ?hy28 ?rest28
          case hy28 => intro w; go_simp; (try with_reducible rfl)
          try simp only [Act.put, zp]
          refine doneE (by kernel_rfl) ?_ _
          go_wp2
          go_ret
          exact ⟨rfl, hb5⟩
        · have hall2 : Hid (∀ j (h1 : j < fs.length) (h2 : j < gs.length), j < i + 1 → fs[j].e = gs[j].e ∧ sameP fs[j].P gs[j].P = true) := Lib.hid fun j h1 h2 h3 => by
            by_cases e : j = i
            · subst e
              rw [HF.out, HH.out]
              exact ⟨he, HQ.out⟩
            · exact hall.out j h1 h2 (by omega)
          refine zE 23 #[zT,zT,zT,zT,zT,zT,zT,zT,zT,zT,zT,zT,zT,zT,zT,zT,zT,zT,zT,zT,zT,zT,zT,zT,zF] ?_ rfl ?hy29 ?rest29
          case hy29 => intro w; go_simp; (try with_reducible rfl)
          try simp only [Act.put, zp]
          refine zE 24 #[zT,zT,zT,zT,zT,zT,zT,zT,zT,zT,zT,zT,zT,zT,zT,zT,zT,zT,zT,zT,zT,zT,zT,zT,zT] ?_ rfl ?hy30 ?rest30
          case hy30 => intro w; go_simp; (try with_reducible rfl)
          try simp only [Act.put, zp]
          refine doneE (by kernel_rfl) ?_ _
          go_wp2
          go_roundw
          case rel => exact ⟨i + 1, by first | rfl | (congr 1; omega) | go_num, rfl, by omega, hb5, hall2⟩
          case measure => first | (simp [intOf]; done) | (simp [intOf]; omega)
end Ma
end Go.Proofs.Ytbbnbgllgomolaa
namespace Go.Proofs.Ytbbnbgllgomolaa
open Go.RowKit
namespace Ma
open Dp Dy
set_option maxHeartbeats 25600000 in
set_option maxRecDepth 100000 in
/-- past.Same's own function. -/
theorem SameFn_any (w : World) (f h : Fv) (hA : PRows w 0 w.heap.size f.P) (hB : PRows w 0 w.heap.size h.P) (k : Bool) (hk : (decide (f.e = h.e) && sameP f.P h.P) = k) :
  Calls Try.prog 60 #[.agg #[.int .i64 f.e, .bool f.P.M.S.s, .slice f.P.M.S.A f.P.M.S.n f.P.M.S.c, .int .i64 f.P.M.S.e, .bool f.P.M.W.s, .slice f.P.M.W.A f.P.M.W.n f.P.M.W.c, .int .i64 f.P.M.W.e, .bool f.P.M.C.s, .slice f.P.M.C.A f.P.M.C.n f.P.M.C.c, .int .i64 f.P.M.C.e, .bool f.P.M.A.s, .slice f.P.M.A.A f.P.M.A.n f.P.M.A.c, .int .i64 f.P.M.A.e, .bool f.P.h, .int .i64 f.P.mn, .int .i64 f.P.mx, .slice f.P.A f.P.n f.P.c], .agg #[.int .i64 h.e, .bool h.P.M.S.s, .slice h.P.M.S.A h.P.M.S.n h.P.M.S.c, .int .i64 h.P.M.S.e, .bool h.P.M.W.s, .slice h.P.M.W.A h.P.M.W.n h.P.M.W.c, .int .i64 h.P.M.W.e, .bool h.P.M.C.s, .slice h.P.M.C.A h.P.M.C.n h.P.M.C.c, .int .i64 h.P.M.C.e, .bool h.P.M.A.s, .slice h.P.M.A.A h.P.M.A.n h.P.M.A.c, .int .i64 h.P.M.A.e, .bool h.P.h, .int .i64 h.P.mn, .int .i64 h.P.mx, .slice h.P.A h.P.n h.P.c]] w fun e w' => e = .returned (.bool k) ∧ Below w.heap.size w w' := by
 generalize hw : (w.alloc (.cells #[.int .i64 f.e, .bool f.P.M.S.s, .slice f.P.M.S.A f.P.M.S.n f.P.M.S.c, .int .i64 f.P.M.S.e, .bool f.P.M.W.s, .slice f.P.M.W.A f.P.M.W.n f.P.M.W.c, .int .i64 f.P.M.W.e, .bool f.P.M.C.s, .slice f.P.M.C.A f.P.M.C.n f.P.M.C.c, .int .i64 f.P.M.C.e, .bool f.P.M.A.s, .slice f.P.M.A.A f.P.M.A.n f.P.M.A.c, .int .i64 f.P.M.A.e, .bool f.P.h, .int .i64 f.P.mn, .int .i64 f.P.mx, .slice f.P.A f.P.n f.P.c] 68)).alloc (.cells #[.int .i64 h.e, .bool h.P.M.S.s, .slice h.P.M.S.A h.P.M.S.n h.P.M.S.c, .int .i64 h.P.M.S.e, .bool h.P.M.W.s, .slice h.P.M.W.A h.P.M.W.n h.P.M.W.c, .int .i64 h.P.M.W.e, .bool h.P.M.C.s, .slice h.P.M.C.A h.P.M.C.n h.P.M.C.c, .int .i64 h.P.M.C.e, .bool h.P.M.A.s, .slice h.P.M.A.A h.P.M.A.n h.P.M.A.c, .int .i64 h.P.M.A.e, .bool h.P.h, .int .i64 h.P.mn, .int .i64 h.P.mx, .slice h.P.A h.P.n h.P.c] 68) = w1
 obtain ⟨bA, bB, j1, lo1, hi1⟩ := boxes2 w _ _ hw
 replace bA : FBox w1 w.heap.size f := bA
 replace bB : FBox w1 (w.heap.size + 1) h := bB
 replace j1 : Below w.heap.size w w1 := j1
 have S1 : w.heap.size < w1.heap.size := by omega
 have S2 : w.heap.size + 1 < w1.heap.size := by omega
 obtain ⟨q, hq⟩ : ∃ q, sameP f.P h.P = q := ⟨_, rfl⟩
 have HQ := Lib.hid hq
 have HK := Lib.hid hk
 clear hq hk
 go_enter Try.func60, Try.ntmps60
 obtain ⟨⟨q1_0, q1_1, q1_2, q1_3, q1_4, q1_5, q1_6, q1_7, q1_8, q1_9, q1_10, q1_11, q1_12, q1_13, q1_14, q1_15, q1_16⟩, q1f⟩ := FBox.cell bA
 obtain ⟨⟨q2_0, q2_1, q2_2, q2_3, q2_4, q2_5, q2_6, q2_7, q2_8, q2_9, q2_10, q2_11, q2_12, q2_13, q2_14, q2_15, q2_16⟩, q2f⟩ := FBox.cell bB
 by_cases he : f.e = h.e
 rotate_left
 · skip
   have heb : (f.e == h.e) = false := by simpa using he
   have hk' : k = false := by rw [← HK.out, decide_eq_false he]; rfl
   subst hk'
   clear HK HQ
   go_wp2
   go_ret
   exact ⟨rfl, j1⟩
 · skip
   have heb : (f.e == h.e) = true := by simpa using he
   have hk' : k = q := by rw [← HK.out, decide_eq_true he, HQ.out]; rfl
   subst hk'
   clear HK he
   go_wp2_with fail
   refine (SamePart_any w1 f.P h.P (PRows.on hA j1) (PRows.on hB j1) k HQ.out).mono ?_
   rintro e' v3 ⟨rfl, j4⟩
   clear q1_0 q1_1 q1_2 q1_3 q1_4 q1_5 q1_6 q1_7 q1_8 q1_9 q1_10 q1_11 q1_12 q1_13 q1_14 q1_15 q1_16 q1f q2_0 q2_1 q2_2 q2_3 q2_4 q2_5 q2_6 q2_7 q2_8 q2_9 q2_10 q2_11 q2_12 q2_13 q2_14 q2_15 q2_16 q2f
   try clear hw
   cases k
   · skip
     go_wp2
     go_ret
     exact ⟨rfl, (later j1 j4)⟩
   · skip
     go_wp2
     go_ret
     exact ⟨rfl, (later j1 j4)⟩
set_option maxHeartbeats 51200000 in
set_option maxRecDepth 100000 in
/-- slices.EqualFunc, of frozen parts. -/
theorem EqualFuncF_any (w : World) (A A' : Option Addr) (n c n' c' : Nat) (fs gs : List Fv) (hL : LFs w 0 w.heap.size A n fs) (hL' : LFs w 0 w.heap.size A' n' gs) (r : Bool) (hr : sameF fs gs = r) :
  Calls Try.prog 59 #[.slice A n c, .slice A' n' c', .func (.func 60) #[] #[]] w fun e w' => e = .returned (.bool r) ∧ Below w.heap.size w w' := by
 have HL := Lib.hid hL.len
 have HL' := Lib.hid hL'.len
 have HR := Lib.hid hr
 have hbig := hL.big
 have hbig' := hL'.big
 clear hr
 go_enter Try.func59, Try.ntmps59
 by_cases hnn : n = n'
 rotate_left
 · have hr' : r = false := by rw [← HR.out]; exact sameF_len (by rw [HL.out, HL'.out]; exact hnn)
   subst hr'
   have hnb : ((n : Int) != (n' : Int)) = true := by
    have : (n : Int) ≠ (n' : Int) := by omega
    simpa using this
   clear HR
   go_wp2
   go_ret
   exact ⟨rfl, Below.refl _ _⟩
 · subst hnn
   go_wp2
   go_loopw [6, 7, 8, 9, 17] (fun ev _ _ _ iv wr => ∃ i : Nat, iv = .int .i64 i ∧ ev = .bool false ∧ i ≤ n ∧ Below w.heap.size w wr ∧ Hid (∀ j (h1 : j < fs.length) (h2 : j < gs.length), j < i → fs[j].e = gs[j].e ∧ sameP fs[j].P gs[j].P = true)) (fun _ _ _ _ iv _ => n - (intOf iv).toNat)
   case atStart => exact ⟨0, rfl, rfl, Nat.zero_le _, Below.refl _ _, Lib.hid fun _ _ _ h => absurd h (Nat.not_lt_zero _)⟩
   case round =>
    obtain ⟨i, rfl, rfl, hi1, hb, hall⟩ := hrel
    by_cases hi : i < n
    rotate_left
    · have hr' : r = true := by
        rw [← HR.out]
        exact sameF_yes (HL.out.trans HL'.out.symm) fun j h1 h2 => hall.out j h1 h2 (by have := HL.out; omega)
      subst hr'
      go_wp2
      go_ret
      exact ⟨rfl, hb⟩
    · have hi2 : i < fs.length := by rw [HL.out]; exact hi
      have hi3 : i < gs.length := by rw [HL'.out]; exact hi
      obtain ⟨b, off, hA, hb1, hb2, hc⟩ := (hL.below hb (Nat.le_refl _)).row (by omega)
      obtain ⟨b', off', hA', hb1', hb2', hc'⟩ := (hL'.below hb (Nat.le_refl _)).row (by omega)
      have hci := Lib.hid (hc i hi2)
      have hdi := Lib.hid (hc' i hi3)
      have hri := (hL.below hb (Nat.le_refl _)).rows i hi2
      have hsi := (hL'.below hb (Nat.le_refl _)).rows i hi3
      obtain ⟨f, hf⟩ : ∃ f, fs[i] = f := ⟨_, rfl⟩
      obtain ⟨h, hh⟩ : ∃ f, gs[i] = f := ⟨_, rfl⟩
      rw [hf] at hci hri
      rw [hh] at hdi hsi
      have HF := Lib.hid hf
      have HH := Lib.hid hh
      have hwrj : IntKind.i64.wrap ((i : Int) + 1) = ((i + 1 : Nat) : Int) := by rw [IntKind.wrap_i64]; omega
      clear hc hc' hf hh
      subst hA hA'
      have lw := hb.size
      obtain ⟨u1, hu1, f1, j1, s1⟩ := alloc_f wr f
      have rg := hci.out.range
      go_upto_region 6 with (first
       | (refine wpList_load_mid rfl 68 (.tmp 20) rfl b (off + i * 17) rfl [.int .i64 f.e, .bool f.P.M.S.s, .slice f.P.M.S.A f.P.M.S.n f.P.M.S.c, .int .i64 f.P.M.S.e, .bool f.P.M.W.s, .slice f.P.M.W.A f.P.M.W.n f.P.M.W.c, .int .i64 f.P.M.W.e, .bool f.P.M.C.s, .slice f.P.M.C.A f.P.M.C.n f.P.M.C.c, .int .i64 f.P.M.C.e, .bool f.P.M.A.s, .slice f.P.M.A.A f.P.M.A.n f.P.M.A.c, .int .i64 f.P.M.A.e, .bool f.P.h, .int .i64 f.P.mn, .int .i64 f.P.mx, .slice f.P.A f.P.n f.P.c] _ rg Try.underlying68 rfl (by kernel_rfl) ?_)
       | (refine wpList_store_new rfl 68 (.tmp 8) (.tmp 21) rfl _ #[.int .i64 f.e, .bool f.P.M.S.s, .slice f.P.M.S.A f.P.M.S.n f.P.M.S.c, .int .i64 f.P.M.S.e, .bool f.P.M.W.s, .slice f.P.M.W.A f.P.M.W.n f.P.M.W.c, .int .i64 f.P.M.W.e, .bool f.P.M.C.s, .slice f.P.M.C.A f.P.M.C.n f.P.M.C.c, .int .i64 f.P.M.C.e, .bool f.P.M.A.s, .slice f.P.M.A.A f.P.M.A.n f.P.M.A.c, .int .i64 f.P.M.A.e, .bool f.P.h, .int .i64 f.P.mn, .int .i64 f.P.mx, .slice f.P.A f.P.n f.P.c] rfl rfl (by kernel_rfl) rfl (all_oneCell_toArray (cells17_one f)) ?_))
      try rw [hu1]
      try clear hu1
      obtain ⟨u2, hu2, f2, j2, s2⟩ := alloc_f u1 h
      have rg2 := (hdi.out.blk (j1.block b' (by omega))).range
      go_upto_region 7 with (first
       | (refine wpList_load_mid rfl 68 (.tmp 24) rfl b' (off' + i * 17) rfl [.int .i64 h.e, .bool h.P.M.S.s, .slice h.P.M.S.A h.P.M.S.n h.P.M.S.c, .int .i64 h.P.M.S.e, .bool h.P.M.W.s, .slice h.P.M.W.A h.P.M.W.n h.P.M.W.c, .int .i64 h.P.M.W.e, .bool h.P.M.C.s, .slice h.P.M.C.A h.P.M.C.n h.P.M.C.c, .int .i64 h.P.M.C.e, .bool h.P.M.A.s, .slice h.P.M.A.A h.P.M.A.n h.P.M.A.c, .int .i64 h.P.M.A.e, .bool h.P.h, .int .i64 h.P.mn, .int .i64 h.P.mx, .slice h.P.A h.P.n h.P.c] _ rg2 Try.underlying68 rfl (by kernel_rfl) ?_)
       | (refine wpList_store_new rfl 68 (.tmp 9) (.tmp 25) rfl _ #[.int .i64 h.e, .bool h.P.M.S.s, .slice h.P.M.S.A h.P.M.S.n h.P.M.S.c, .int .i64 h.P.M.S.e, .bool h.P.M.W.s, .slice h.P.M.W.A h.P.M.W.n h.P.M.W.c, .int .i64 h.P.M.W.e, .bool h.P.M.C.s, .slice h.P.M.C.A h.P.M.C.n h.P.M.C.c, .int .i64 h.P.M.C.e, .bool h.P.M.A.s, .slice h.P.M.A.A h.P.M.A.n h.P.M.A.c, .int .i64 h.P.M.A.e, .bool h.P.h, .int .i64 h.P.mn, .int .i64 h.P.mx, .slice h.P.A h.P.n h.P.c] rfl rfl (by kernel_rfl) rfl (all_oneCell_toArray (cells17_one h)) ?_))
      try rw [hu2]
      try clear hu2
      clear rg rg2
      have f1' : FBox u2 wr.heap.size f := (j2.block _ s1).trans f1
      have rg := f1'.range
      have rg2 := f2.range
      have j12 := later j1 j2
      obtain ⟨q, hq⟩ : ∃ q, (decide (f.e = h.e) && sameP f.P h.P) = q := ⟨_, rfl⟩
      have HQ := Lib.hid hq
      clear hq
      go_wp2_with (first
       | (refine wpList_load_mid rfl 68 (.tmp 8) rfl wr.heap.size 0 rfl [.int .i64 f.e, .bool f.P.M.S.s, .slice f.P.M.S.A f.P.M.S.n f.P.M.S.c, .int .i64 f.P.M.S.e, .bool f.P.M.W.s, .slice f.P.M.W.A f.P.M.W.n f.P.M.W.c, .int .i64 f.P.M.W.e, .bool f.P.M.C.s, .slice f.P.M.C.A f.P.M.C.n f.P.M.C.c, .int .i64 f.P.M.C.e, .bool f.P.M.A.s, .slice f.P.M.A.A f.P.M.A.n f.P.M.A.c, .int .i64 f.P.M.A.e, .bool f.P.h, .int .i64 f.P.mn, .int .i64 f.P.mx, .slice f.P.A f.P.n f.P.c] _ rg Try.underlying68 rfl (by kernel_rfl) ?_)
       | (refine wpList_load_mid rfl 68 (.tmp 9) rfl u1.heap.size 0 rfl [.int .i64 h.e, .bool h.P.M.S.s, .slice h.P.M.S.A h.P.M.S.n h.P.M.S.c, .int .i64 h.P.M.S.e, .bool h.P.M.W.s, .slice h.P.M.W.A h.P.M.W.n h.P.M.W.c, .int .i64 h.P.M.W.e, .bool h.P.M.C.s, .slice h.P.M.C.A h.P.M.C.n h.P.M.C.c, .int .i64 h.P.M.C.e, .bool h.P.M.A.s, .slice h.P.M.A.A h.P.M.A.n h.P.M.A.c, .int .i64 h.P.M.A.e, .bool h.P.h, .int .i64 h.P.mn, .int .i64 h.P.mx, .slice h.P.A h.P.n h.P.c] _ rg2 Try.underlying68 rfl (by kernel_rfl) ?_))
      refine (SameFn_any u2 f h ((hri.more (Nat.le_refl _) lw).on j12) ((hsi.more (Nat.le_refl _) lw).on j12) q HQ.out).mono ?_
      rintro e' u3 ⟨rfl, j3⟩
      clear rg rg2
      have hb5 := hb.trans ((later j12 j3).mono lw)
      cases q
      · have hr' : r = false := by
          rw [← HR.out]
          refine sameF_no hi2 hi3 ?_
          rw [HF.out, HH.out]
          intro k
          have := HQ.out
          rw [decide_eq_true k.1, k.2] at this
          cases this
        subst hr'
        go_wp2
        go_ret
        exact ⟨rfl, hb5⟩
      · have hall2 : Hid (∀ j (h1 : j < fs.length) (h2 : j < gs.length), j < i + 1 → fs[j].e = gs[j].e ∧ sameP fs[j].P gs[j].P = true) := Lib.hid fun j h1 h2 h3 => by
          by_cases e : j = i
          · subst e
            rw [HF.out, HH.out]
            have := HQ.out
            rw [Bool.and_eq_true, decide_eq_true_eq] at this
            exact this
          · exact hall.out j h1 h2 (by omega)
        go_wp2
        go_roundw
        case rel => exact ⟨i + 1, by first | rfl | (congr 1; omega) | go_num, rfl, by omega, hb5, hall2⟩
        case measure => first | (simp [intOf]; done) | (simp [intOf]; omega)
set_option maxHeartbeats 6400000 in
set_option maxRecDepth 100000 in
/-- past.Same. -/
theorem SameF_any (w : World) (A A' : Option Addr) (n c n' c' : Nat) (fs gs : List Fv) (hL : LFs w 0 w.heap.size A n fs) (hL' : LFs w 0 w.heap.size A' n' gs) (r : Bool) (hr : sameF fs gs = r) :
  Calls Try.prog 20 #[.slice A n c, .slice A' n' c'] w fun e w' => e = .returned (.bool r) ∧ Below w.heap.size w w' := by
 go_enter Try.func20, Try.ntmps20
 go_wp2_with fail
 refine (EqualFuncF_any w A A' n c n' c' fs gs hL hL' r hr).mono ?_
 rintro e' v1 ⟨rfl, j1⟩
 go_wp2
 go_ret
 exact ⟨rfl, j1⟩
end Ma
end Go.Proofs.Ytbbnbgllgomolaa
namespace Go.Proofs.Ytbbnbgllgomolaa
open Go.RowKit
namespace Ma
open Dp Dy
set_option maxHeartbeats 51200000 in
set_option maxRecDepth 100000 in
/-- headcountref20.Great. -/
theorem GreatF_any (w : World) (A : Option Addr) (n c : Nat) (fs : List Fv) (hL : LFs w 0 w.heap.size A n fs) (k : Bool) (hk : greatF n fs = k) :
  Calls Try.prog 12 #[.slice A n c] w fun e w' => e = .returned (.bool k) ∧ Below w.heap.size w w' := by
 have HL := Lib.hid hL.len
 have HK := Lib.hid hk
 have hbig := hL.big
 clear hk
 go_enter Try.func12, Try.ntmps12
 by_cases c1 : 40 < n ∧ n < 1024
 · have hk' : k = true := by rw [← HK.out, greatF, decide_eq_true c1.1, decide_eq_true c1.2]; rfl
   subst hk'
   have c2 : 40 < n := c1.1
   have c3 : n < 1024 := c1.2
   clear HK
   go_wp2
   go_ret
   exact ⟨rfl, Below.refl _ _⟩
 by_cases c2 : 1028 < n
 · have hk' : k = true := by rw [← HK.out, greatF, decide_eq_true c2]; simp
   subst hk'
   have c3 : 40 < n := by omega
   have c4 : ¬ n < 1024 := by omega
   clear HK
   go_wp2
   go_ret
   exact ⟨rfl, Below.refl _ _⟩
 obtain ⟨z, hz⟩ : ∃ z, decide (40 < n) = z := ⟨_, rfl⟩
 have h0 : ((decide (40 < n) && decide (n < 1024)) || decide (1028 < n)) = false := by
  rw [decide_eq_false c2]
  by_cases q : 40 < n
  · rw [decide_eq_false (show ¬ n < 1024 from fun h => c1 ⟨q, h⟩)]
    simp
  · rw [decide_eq_false q]
    rfl
 have HK2 : Hid ((fs.any fun f => greatP f.P || (z && decide (4 < bigP f.P))) = k) := Lib.hid (by
  rw [← hz]
  have := HK.out
  unfold greatF at this
  rw [h0, Bool.false_or] at this
  exact this)
 have HZ := Lib.hid hz
 clear HK h0 hz
 cases z
 · skip
   have c3 : ¬ 40 < n := of_decide_eq_false HZ.out
   clear c1
   go_wp2
   go_loopw [2, 3] (fun ev iv wr => ∃ i : Nat, iv = .int .i64 i ∧ ev = .bool false ∧ i ≤ n ∧ Below w.heap.size w wr ∧ Hid (∀ j (h : j < fs.length), j < i → (greatP fs[j].P || (false && decide (4 < bigP fs[j].P))) = false)) (fun _ iv _ => n - (intOf iv).toNat)
   case atStart => exact ⟨0, rfl, rfl, Nat.zero_le _, Below.refl _ _, Lib.hid fun _ _ h => absurd h (Nat.not_lt_zero _)⟩
   case round =>
    obtain ⟨i, rfl, rfl, hi1, hb, hno⟩ := hrel
    by_cases hi : i < n
    rotate_left
    · have hk' : k = false := by
        rw [← HK2.out]
        exact any_none fun j hj => hno.out j hj (by have := HL.out; omega)
      subst hk'
      go_wp2
      go_ret
      exact ⟨rfl, hb⟩
    · have hi2 : i < fs.length := by rw [HL.out]; exact hi
      obtain ⟨b, off, hA, hb1, hb2, hc⟩ := (hL.below hb (Nat.le_refl _)).row (by omega)
      have hci := Lib.hid (hc i hi2)
      have hri := (hL.below hb (Nat.le_refl _)).rows i hi2
      obtain ⟨f, hf⟩ : ∃ f, fs[i] = f := ⟨_, rfl⟩
      rw [hf] at hci hri
      have HF := Lib.hid hf
      have hwrj : IntKind.i64.wrap ((i : Int) + 1) = ((i + 1 : Nat) : Int) := by rw [IntKind.wrap_i64]; omega
      clear hc hf
      subst hA
      have lw := hb.size
      obtain ⟨g, hg⟩ : ∃ g, greatP f.P = g := ⟨_, rfl⟩
      have HG := Lib.hid hg
      clear hg
      go_wp2_with fail
      refine region_E (Keeps wr) [] (m := 61) (L := #[zF,zF,zF,zF,zF,zF,zF,zF,zF,zF,zF,zF,zF,zF,zF,zF,zF,zF,zF,zF,zF,zF,zF,zF,zF,zF,zF,zF,zF,zF,zF,zF,zF,zF,zF,zF,zF,zF,zF,zF,zF,zF,zF,zF,zF,zF,zF,zF,zF,zF,zF,zF,zF,zF,zF,zF,zF,zF,zF,zF,zF]) (by kernel_rfl) (by rfl) (by rfl) ?_
      have kp0 : Keeps wr wr.drew := fun _ _ => rfl
      have b0 : Below wr.heap.size wr wr.drew := (Below.refl _ _).drew
      have hbw : b < wr.heap.size := by omega
      generalize wr.drew = v0 at *
      refine zE 0 #[zT,zF,zF,zF,zF,zF,zF,zF,zF,zF,zF,zF,zF,zF,zF,zF,zF,zF,zF,zF,zF,zF,zF,zF,zF,zF,zF,zF,zF,zF,zF,zF,zF,zF,zF,zF,zF,zF,zF,zF,zF,zF,zF,zF,zF,zF,zF,zF,zF,zF,zF,zF,zF,zF,zF,zF,zF,zF,zF,zF,zF] ?_ rfl ?hy31 ?rest31
      case hy31 => intro w; go_simp; (try with_reducible rfl)
      try simp only [Act.put, zp]
      refine zE 1 #[zT,zT,zF,zF,zF,zF,zF,zF,zF,zF,zF,zF,zF,zF,zF,zF,zF,zF,zF,zF,zF,zF,zF,zF,zF,zF,zF,zF,zF,zF,zF,zF,zF,zF,zF,zF,zF,zF,zF,zF,zF,zF,zF,zF,zF,zF,zF,zF,zF,zF,zF,zF,zF,zF,zF,zF,zF,zF,zF,zF,zF] ?_ rfl ?hy32 ?rest32
      case hy32 => intro w; go_simp; (try with_reducible rfl)
      try simp only [Act.put, zp]
      refine zE 2 #[zT,zT,zT,zF,zF,zF,zF,zF,zF,zF,zF,zF,zF,zF,zF,zF,zF,zF,zF,zF,zF,zF,zF,zF,zF,zF,zF,zF,zF,zF,zF,zF,zF,zF,zF,zF,zF,zF,zF,zF,zF,zF,zF,zF,zF,zF,zF,zF,zF,zF,zF,zF,zF,zF,zF,zF,zF,zF,zF,zF,zF] ?_ rfl ?hy33 ?rest33
      case hy33 => intro w; go_simp; (try with_reducible rfl)
      try simp only [Act.put, zp]
      refine zE 3 #[zT,zT,zT,zT,zF,zF,zF,zF,zF,zF,zF,zF,zF,zF,zF,zF,zF,zF,zF,zF,zF,zF,zF,zF,zF,zF,zF,zF,zF,zF,zF,zF,zF,zF,zF,zF,zF,zF,zF,zF,zF,zF,zF,zF,zF,zF,zF,zF,zF,zF,zF,zF,zF,zF,zF,zF,zF,zF,zF,zF,zF] ?_ rfl ?hy34 ?rest34
      case hy34 => intro w; go_simp; (try with_reducible rfl)
      try simp only [Act.put, zp]
      refine readE (i := 4) (L := #[zT,zT,zT,zT,zT,zF,zF,zF,zF,zF,zF,zF,zF,zF,zF,zF,zF,zF,zF,zF,zF,zF,zF,zF,zF,zF,zF,zF,zF,zF,zF,zF,zF,zF,zF,zF,zF,zF,zF,zF,zF,zF,zF,zF,zF,zF,zF,zF,zF,zF,zF,zF,zF,zF,zF,zF,zF,zF,zF,zF,zF]) (v := .agg #[.bool f.P.M.S.s, .slice f.P.M.S.A f.P.M.S.n f.P.M.S.c, .int .i64 f.P.M.S.e, .bool f.P.M.W.s, .slice f.P.M.W.A f.P.M.W.n f.P.M.W.c, .int .i64 f.P.M.W.e, .bool f.P.M.C.s, .slice f.P.M.C.A f.P.M.C.n f.P.M.C.c, .int .i64 f.P.M.C.e, .bool f.P.M.A.s, .slice f.P.M.A.A f.P.M.A.n f.P.M.A.c, .int .i64 f.P.M.A.e, .bool f.P.h, .int .i64 f.P.mn, .int .i64 f.P.mx, .slice f.P.A f.P.n f.P.c]) rfl (by rfl) (by kernel_rfl) (by kernel_rfl) (by kernel_rfl) (fun _ _ _ h => h) (by assumption) (by rfl) ?y4_false ?z4_false
      case y4_false =>
       intro w' h1
       obtain ⟨k_, k0, k1, k2, k3, k4, k5, k6, k7, k8, k9, k10, k11, k12, k13, k14, k15⟩ := hci.out.blk (h1 _ hbw)
       go_simp
      try simp only [Act.put, zp]
      refine stepK (i := 5) (L := #[zT,zT,zT,zT,zT,zT,zF,zF,zF,zF,zF,zF,zF,zF,zF,zF,zF,zF,zF,zF,zF,zF,zF,zF,zF,zF,zF,zF,zF,zF,zF,zF,zF,zF,zF,zF,zF,zF,zF,zF,zF,zF,zF,zF,zF,zF,zF,zF,zF,zF,zF,zF,zF,zF,zF,zF,zF,zF,zF,zF,zF]) rfl (by rfl) (by kernel_rfl) (by rfl) (fun K hK => ?_)
      go_simp
      go_at_call 13
      refine (GreatPart_any v0 f.P ((hri.more (Nat.le_refl _) lw).on b0) g HG.out).mono ?_
      rintro e' v1 ⟨rfl, j1⟩
      have b1 := later b0 j1
      have kp1 : Keeps wr v1 := fun p hp => b1.block p hp
      have hb5 := hb.trans (b1.mono lw)
      refine hK _ _ ⟨fun _ _ => kp1, ?_⟩
      clear hK K kp0
      try simp only []
      refine zE 6 #[zT,zT,zT,zT,zT,zT,zT,zF,zF,zF,zF,zF,zF,zF,zF,zF,zF,zF,zF,zF,zF,zF,zF,zF,zF,zF,zF,zF,zF,zF,zF,zF,zF,zF,zF,zF,zF,zF,zF,zF,zF,zF,zF,zF,zF,zF,zF,zF,zF,zF,zF,zF,zF,zF,zF,zF,zF,zF,zF,zF,zF] ?_ rfl ?hy37 ?rest37
      case hy37 => intro w; go_simp; (try with_reducible rfl)
      try simp only [Act.put, zp]
      cases g
      rotate_left
      · skip
        have hk' : k = true := by
         rw [← HK2.out]
         exact any_at hi2 (by rw [HF.out, HG.out]; rfl)
        subst hk'
        refine skipE (i := 7) (L := #[zT,zT,zT,zT,zT,zT,zT,zT,zF,zF,zF,zF,zF,zF,zF,zF,zF,zF,zF,zF,zF,zF,zF,zF,zF,zF,zF,zF,zF,zF,zF,zF,zF,zF,zF,zF,zF,zF,zF,zF,zF,zF,zF,zF,zF,zF,zF,zF,zF,zF,zF,zF,zF,zF,zF,zF,zF,zF,zF,zF,zF]) rfl (by rfl) (by kernel_rfl) (by kernel_rfl) (by kernel_rfl) (fun _ _ _ h => h) (by rfl) ?_
        try simp only [Act.put, zp]
        refine skipE (i := 8) (L := #[zT,zT,zT,zT,zT,zT,zT,zT,zT,zF,zF,zF,zF,zF,zF,zF,zF,zF,zF,zF,zF,zF,zF,zF,zF,zF,zF,zF,zF,zF,zF,zF,zF,zF,zF,zF,zF,zF,zF,zF,zF,zF,zF,zF,zF,zF,zF,zF,zF,zF,zF,zF,zF,zF,zF,zF,zF,zF,zF,zF,zF]) rfl (by rfl) (by kernel_rfl) (by kernel_rfl) (by kernel_rfl) (fun _ _ _ h => h) (by rfl) ?_
        try simp only [Act.put, zp]
        refine skipE (i := 9) (L := #[zT,zT,zT,zT,zT,zT,zT,zT,zT,zT,zF,zF,zF,zF,zF,zF,zF,zF,zF,zF,zF,zF,zF,zF,zF,zF,zF,zF,zF,zF,zF,zF,zF,zF,zF,zF,zF,zF,zF,zF,zF,zF,zF,zF,zF,zF,zF,zF,zF,zF,zF,zF,zF,zF,zF,zF,zF,zF,zF,zF,zF]) rfl (by rfl) (by kernel_rfl) (by kernel_rfl) (by kernel_rfl) (fun _ _ _ h => h) (by rfl) ?_
        try simp only [Act.put, zp]
        refine skipE (i := 10) (L := #[zT,zT,zT,zT,zT,zT,zT,zT,zT,zT,zT,zF,zF,zF,zF,zF,zF,zF,zF,zF,zF,zF,zF,zF,zF,zF,zF,zF,zF,zF,zF,zF,zF,zF,zF,zF,zF,zF,zF,zF,zF,zF,zF,zF,zF,zF,zF,zF,zF,zF,zF,zF,zF,zF,zF,zF,zF,zF,zF,zF,zF]) rfl (by rfl) (by kernel_rfl) (by kernel_rfl) (by kernel_rfl) (fun _ _ _ h => h) (by rfl) ?_
        try simp only [Act.put, zp]
        refine skipE (i := 11) (L := #[zT,zT,zT,zT,zT,zT,zT,zT,zT,zT,zT,zT,zF,zF,zF,zF,zF,zF,zF,zF,zF,zF,zF,zF,zF,zF,zF,zF,zF,zF,zF,zF,zF,zF,zF,zF,zF,zF,zF,zF,zF,zF,zF,zF,zF,zF,zF,zF,zF,zF,zF,zF,zF,zF,zF,zF,zF,zF,zF,zF,zF]) rfl (by rfl) (by kernel_rfl) (by kernel_rfl) (by kernel_rfl) (fun _ _ _ h => h) (by rfl) ?_
        try simp only [Act.put, zp]
        refine skipE (i := 12) (L := #[zT,zT,zT,zT,zT,zT,zT,zT,zT,zT,zT,zT,zT,zF,zF,zF,zF,zF,zF,zF,zF,zF,zF,zF,zF,zF,zF,zF,zF,zF,zF,zF,zF,zF,zF,zF,zF,zF,zF,zF,zF,zF,zF,zF,zF,zF,zF,zF,zF,zF,zF,zF,zF,zF,zF,zF,zF,zF,zF,zF,zF]) rfl (by rfl) (by kernel_rfl) (by kernel_rfl) (by kernel_rfl) (fun _ _ _ h => h) (by rfl) ?_
        try simp only [Act.put, zp]
        refine skipE (i := 13) (L := #[zT,zT,zT,zT,zT,zT,zT,zT,zT,zT,zT,zT,zT,zT,zF,zF,zF,zF,zF,zF,zF,zF,zF,zF,zF,zF,zF,zF,zF,zF,zF,zF,zF,zF,zF,zF,zF,zF,zF,zF,zF,zF,zF,zF,zF,zF,zF,zF,zF,zF,zF,zF,zF,zF,zF,zF,zF,zF,zF,zF,zF]) rfl (by rfl) (by kernel_rfl) (by kernel_rfl) (by kernel_rfl) (fun _ _ _ h => h) (by rfl) ?_
        try simp only [Act.put, zp]
        refine skipE (i := 14) (L := #[zT,zT,zT,zT,zT,zT,zT,zT,zT,zT,zT,zT,zT,zT,zT,zF,zF,zF,zF,zF,zF,zF,zF,zF,zF,zF,zF,zF,zF,zF,zF,zF,zF,zF,zF,zF,zF,zF,zF,zF,zF,zF,zF,zF,zF,zF,zF,zF,zF,zF,zF,zF,zF,zF,zF,zF,zF,zF,zF,zF,zF]) rfl (by rfl) (by kernel_rfl) (by kernel_rfl) (by kernel_rfl) (fun _ _ _ h => h) (by rfl) ?_
        try simp only [Act.put, zp]
        refine skipE (i := 15) (L := #[zT,zT,zT,zT,zT,zT,zT,zT,zT,zT,zT,zT,zT,zT,zT,zT,zF,zF,zF,zF,zF,zF,zF,zF,zF,zF,zF,zF,zF,zF,zF,zF,zF,zF,zF,zF,zF,zF,zF,zF,zF,zF,zF,zF,zF,zF,zF,zF,zF,zF,zF,zF,zF,zF,zF,zF,zF,zF,zF,zF,zF]) rfl (by rfl) (by kernel_rfl) (by kernel_rfl) (by kernel_rfl) (fun _ _ _ h => h) (by rfl) ?_
        try simp only [Act.put, zp]
        refine skipE (i := 16) (L := #[zT,zT,zT,zT,zT,zT,zT,zT,zT,zT,zT,zT,zT,zT,zT,zT,zT,zF,zF,zF,zF,zF,zF,zF,zF,zF,zF,zF,zF,zF,zF,zF,zF,zF,zF,zF,zF,zF,zF,zF,zF,zF,zF,zF,zF,zF,zF,zF,zF,zF,zF,zF,zF,zF,zF,zF,zF,zF,zF,zF,zF]) rfl (by rfl) (by kernel_rfl) (by kernel_rfl) (by kernel_rfl) (fun _ _ _ h => h) (by rfl) ?_
        try simp only [Act.put, zp]
        refine skipE (i := 17) (L := #[zT,zT,zT,zT,zT,zT,zT,zT,zT,zT,zT,zT,zT,zT,zT,zT,zT,zT,zF,zF,zF,zF,zF,zF,zF,zF,zF,zF,zF,zF,zF,zF,zF,zF,zF,zF,zF,zF,zF,zF,zF,zF,zF,zF,zF,zF,zF,zF,zF,zF,zF,zF,zF,zF,zF,zF,zF,zF,zF,zF,zF]) rfl (by rfl) (by kernel_rfl) (by kernel_rfl) (by kernel_rfl) (fun _ _ _ h => h) (by rfl) ?_
        try simp only [Act.put, zp]
        refine skipE (i := 18) (L := #[zT,zT,zT,zT,zT,zT,zT,zT,zT,zT,zT,zT,zT,zT,zT,zT,zT,zT,zT,zF,zF,zF,zF,zF,zF,zF,zF,zF,zF,zF,zF,zF,zF,zF,zF,zF,zF,zF,zF,zF,zF,zF,zF,zF,zF,zF,zF,zF,zF,zF,zF,zF,zF,zF,zF,zF,zF,zF,zF,zF,zF]) rfl (by rfl) (by kernel_rfl) (by kernel_rfl) (by kernel_rfl) (fun _ _ _ h => h) (by rfl) ?_
        try simp only [Act.put, zp]
        refine skipE (i := 19) (L := #[zT,zT,zT,zT,zT,zT,zT,zT,zT,zT,zT,zT,zT,zT,zT,zT,zT,zT,zT,zT,zF,zF,zF,zF,zF,zF,zF,zF,zF,zF,zF,zF,zF,zF,zF,zF,zF,zF,zF,zF,zF,zF,zF,zF,zF,zF,zF,zF,zF,zF,zF,zF,zF,zF,zF,zF,zF,zF,zF,zF,zF]) rfl (by rfl) (by kernel_rfl) (by kernel_rfl) (by kernel_rfl) (fun _ _ _ h => h) (by rfl) ?_
        try simp only [Act.put, zp]
        refine skipE (i := 20) (L := #[zT,zT,zT,zT,zT,zT,zT,zT,zT,zT,zT,zT,zT,zT,zT,zT,zT,zT,zT,zT,zT,zF,zF,zF,zF,zF,zF,zF,zF,zF,zF,zF,zF,zF,zF,zF,zF,zF,zF,zF,zF,zF,zF,zF,zF,zF,zF,zF,zF,zF,zF,zF,zF,zF,zF,zF,zF,zF,zF,zF,zF]) rfl (by rfl) (by kernel_rfl) (by kernel_rfl) (by kernel_rfl) (fun _ _ _ h => h) (by rfl) ?_
        try simp only [Act.put, zp]
        refine skipE (i := 21) (L := #[zT,zT,zT,zT,zT,zT,zT,zT,zT,zT,zT,zT,zT,zT,zT,zT,zT,zT,zT,zT,zT,zT,zF,zF,zF,zF,zF,zF,zF,zF,zF,zF,zF,zF,zF,zF,zF,zF,zF,zF,zF,zF,zF,zF,zF,zF,zF,zF,zF,zF,zF,zF,zF,zF,zF,zF,zF,zF,zF,zF,zF]) rfl (by rfl) (by kernel_rfl) (by kernel_rfl) (by kernel_rfl) (fun _ _ _ h => h) (by rfl) ?_
        try simp only [Act.put, zp]
        refine skipE (i := 22) (L := #[zT,zT,zT,zT,zT,zT,zT,zT,zT,zT,zT,zT,zT,zT,zT,zT,zT,zT,zT,zT,zT,zT,zT,zF,zF,zF,zF,zF,zF,zF,zF,zF,zF,zF,zF,zF,zF,zF,zF,zF,zF,zF,zF,zF,zF,zF,zF,zF,zF,zF,zF,zF,zF,zF,zF,zF,zF,zF,zF,zF,zF]) rfl (by rfl) (by kernel_rfl) (by kernel_rfl) (by kernel_rfl) (fun _ _ _ h => h) (by rfl) ?_
        try simp only [Act.put, zp]
        refine skipE (i := 23) (L := #[zT,zT,zT,zT,zT,zT,zT,zT,zT,zT,zT,zT,zT,zT,zT,zT,zT,zT,zT,zT,zT,zT,zT,zT,zF,zF,zF,zF,zF,zF,zF,zF,zF,zF,zF,zF,zF,zF,zF,zF,zF,zF,zF,zF,zF,zF,zF,zF,zF,zF,zF,zF,zF,zF,zF,zF,zF,zF,zF,zF,zF]) rfl (by rfl) (by kernel_rfl) (by kernel_rfl) (by kernel_rfl) (fun _ _ _ h => h) (by rfl) ?_
        try simp only [Act.put, zp]
        refine skipE (i := 24) (L := #[zT,zT,zT,zT,zT,zT,zT,zT,zT,zT,zT,zT,zT,zT,zT,zT,zT,zT,zT,zT,zT,zT,zT,zT,zT,zF,zF,zF,zF,zF,zF,zF,zF,zF,zF,zF,zF,zF,zF,zF,zF,zF,zF,zF,zF,zF,zF,zF,zF,zF,zF,zF,zF,zF,zF,zF,zF,zF,zF,zF,zF]) rfl (by rfl) (by kernel_rfl) (by kernel_rfl) (by kernel_rfl) (fun _ _ _ h => h) (by rfl) ?_
        try simp only [Act.put, zp]
        refine skipE (i := 25) (L := #[zT,zT,zT,zT,zT,zT,zT,zT,zT,zT,zT,zT,zT,zT,zT,zT,zT,zT,zT,zT,zT,zT,zT,zT,zT,zT,zF,zF,zF,zF,zF,zF,zF,zF,zF,zF,zF,zF,zF,zF,zF,zF,zF,zF,zF,zF,zF,zF,zF,zF,zF,zF,zF,zF,zF,zF,zF,zF,zF,zF,zF]) rfl (by rfl) (by kernel_rfl) (by kernel_rfl) (by kernel_rfl) (fun _ _ _ h => h) (by rfl) ?_
        try simp only [Act.put, zp]
        refine skipE (i := 26) (L := #[zT,zT,zT,zT,zT,zT,zT,zT,zT,zT,zT,zT,zT,zT,zT,zT,zT,zT,zT,zT,zT,zT,zT,zT,zT,zT,zT,zF,zF,zF,zF,zF,zF,zF,zF,zF,zF,zF,zF,zF,zF,zF,zF,zF,zF,zF,zF,zF,zF,zF,zF,zF,zF,zF,zF,zF,zF,zF,zF,zF,zF]) rfl (by rfl) (by kernel_rfl) (by kernel_rfl) (by kernel_rfl) (fun _ _ _ h => h) (by rfl) ?_
        try simp only [Act.put, zp]
        refine skipE (i := 27) (L := #[zT,zT,zT,zT,zT,zT,zT,zT,zT,zT,zT,zT,zT,zT,zT,zT,zT,zT,zT,zT,zT,zT,zT,zT,zT,zT,zT,zT,zF,zF,zF,zF,zF,zF,zF,zF,zF,zF,zF,zF,zF,zF,zF,zF,zF,zF,zF,zF,zF,zF,zF,zF,zF,zF,zF,zF,zF,zF,zF,zF,zF]) rfl (by rfl) (by kernel_rfl) (by kernel_rfl) (by kernel_rfl) (fun _ _ _ h => h) (by rfl) ?_
        try simp only [Act.put, zp]
        refine skipE (i := 28) (L := #[zT,zT,zT,zT,zT,zT,zT,zT,zT,zT,zT,zT,zT,zT,zT,zT,zT,zT,zT,zT,zT,zT,zT,zT,zT,zT,zT,zT,zT,zF,zF,zF,zF,zF,zF,zF,zF,zF,zF,zF,zF,zF,zF,zF,zF,zF,zF,zF,zF,zF,zF,zF,zF,zF,zF,zF,zF,zF,zF,zF,zF]) rfl (by rfl) (by kernel_rfl) (by kernel_rfl) (by kernel_rfl) (fun _ _ _ h => h) (by rfl) ?_
        try simp only [Act.put, zp]
        refine skipE (i := 29) (L := #[zT,zT,zT,zT,zT,zT,zT,zT,zT,zT,zT,zT,zT,zT,zT,zT,zT,zT,zT,zT,zT,zT,zT,zT,zT,zT,zT,zT,zT,zT,zF,zF,zF,zF,zF,zF,zF,zF,zF,zF,zF,zF,zF,zF,zF,zF,zF,zF,zF,zF,zF,zF,zF,zF,zF,zF,zF,zF,zF,zF,zF]) rfl (by rfl) (by kernel_rfl) (by kernel_rfl) (by kernel_rfl) (fun _ _ _ h => h) (by rfl) ?_
        try simp only [Act.put, zp]
        refine skipE (i := 30) (L := #[zT,zT,zT,zT,zT,zT,zT,zT,zT,zT,zT,zT,zT,zT,zT,zT,zT,zT,zT,zT,zT,zT,zT,zT,zT,zT,zT,zT,zT,zT,zT,zF,zF,zF,zF,zF,zF,zF,zF,zF,zF,zF,zF,zF,zF,zF,zF,zF,zF,zF,zF,zF,zF,zF,zF,zF,zF,zF,zF,zF,zF]) rfl (by rfl) (by kernel_rfl) (by kernel_rfl) (by kernel_rfl) (fun _ _ _ h => h) (by rfl) ?_
        try simp only [Act.put, zp]
        refine skipE (i := 31) (L := #[zT,zT,zT,zT,zT,zT,zT,zT,zT,zT,zT,zT,zT,zT,zT,zT,zT,zT,zT,zT,zT,zT,zT,zT,zT,zT,zT,zT,zT,zT,zT,zT,zF,zF,zF,zF,zF,zF,zF,zF,zF,zF,zF,zF,zF,zF,zF,zF,zF,zF,zF,zF,zF,zF,zF,zF,zF,zF,zF,zF,zF]) rfl (by rfl) (by kernel_rfl) (by kernel_rfl) (by kernel_rfl) (fun _ _ _ h => h) (by rfl) ?_
        try simp only [Act.put, zp]
        refine skipE (i := 32) (L := #[zT,zT,zT,zT,zT,zT,zT,zT,zT,zT,zT,zT,zT,zT,zT,zT,zT,zT,zT,zT,zT,zT,zT,zT,zT,zT,zT,zT,zT,zT,zT,zT,zT,zF,zF,zF,zF,zF,zF,zF,zF,zF,zF,zF,zF,zF,zF,zF,zF,zF,zF,zF,zF,zF,zF,zF,zF,zF,zF,zF,zF]) rfl (by rfl) (by kernel_rfl) (by kernel_rfl) (by kernel_rfl) (fun _ _ _ h => h) (by rfl) ?_
        try simp only [Act.put, zp]
        refine skipE (i := 33) (L := #[zT,zT,zT,zT,zT,zT,zT,zT,zT,zT,zT,zT,zT,zT,zT,zT,zT,zT,zT,zT,zT,zT,zT,zT,zT,zT,zT,zT,zT,zT,zT,zT,zT,zT,zF,zF,zF,zF,zF,zF,zF,zF,zF,zF,zF,zF,zF,zF,zF,zF,zF,zF,zF,zF,zF,zF,zF,zF,zF,zF,zF]) rfl (by rfl) (by kernel_rfl) (by kernel_rfl) (by kernel_rfl) (fun _ _ _ h => h) (by rfl) ?_
        try simp only [Act.put, zp]
        refine skipE (i := 34) (L := #[zT,zT,zT,zT,zT,zT,zT,zT,zT,zT,zT,zT,zT,zT,zT,zT,zT,zT,zT,zT,zT,zT,zT,zT,zT,zT,zT,zT,zT,zT,zT,zT,zT,zT,zT,zF,zF,zF,zF,zF,zF,zF,zF,zF,zF,zF,zF,zF,zF,zF,zF,zF,zF,zF,zF,zF,zF,zF,zF,zF,zF]) rfl (by rfl) (by kernel_rfl) (by kernel_rfl) (by kernel_rfl) (fun _ _ _ h => h) (by rfl) ?_
        try simp only [Act.put, zp]
        refine skipE (i := 35) (L := #[zT,zT,zT,zT,zT,zT,zT,zT,zT,zT,zT,zT,zT,zT,zT,zT,zT,zT,zT,zT,zT,zT,zT,zT,zT,zT,zT,zT,zT,zT,zT,zT,zT,zT,zT,zT,zF,zF,zF,zF,zF,zF,zF,zF,zF,zF,zF,zF,zF,zF,zF,zF,zF,zF,zF,zF,zF,zF,zF,zF,zF]) rfl (by rfl) (by kernel_rfl) (by kernel_rfl) (by kernel_rfl) (fun _ _ _ h => h) (by rfl) ?_
        try simp only [Act.put, zp]
        refine skipE (i := 36) (L := #[zT,zT,zT,zT,zT,zT,zT,zT,zT,zT,zT,zT,zT,zT,zT,zT,zT,zT,zT,zT,zT,zT,zT,zT,zT,zT,zT,zT,zT,zT,zT,zT,zT,zT,zT,zT,zT,zF,zF,zF,zF,zF,zF,zF,zF,zF,zF,zF,zF,zF,zF,zF,zF,zF,zF,zF,zF,zF,zF,zF,zF]) rfl (by rfl) (by kernel_rfl) (by kernel_rfl) (by kernel_rfl) (fun _ _ _ h => h) (by rfl) ?_
        try simp only [Act.put, zp]
        refine skipE (i := 37) (L := #[zT,zT,zT,zT,zT,zT,zT,zT,zT,zT,zT,zT,zT,zT,zT,zT,zT,zT,zT,zT,zT,zT,zT,zT,zT,zT,zT,zT,zT,zT,zT,zT,zT,zT,zT,zT,zT,zT,zF,zF,zF,zF,zF,zF,zF,zF,zF,zF,zF,zF,zF,zF,zF,zF,zF,zF,zF,zF,zF,zF,zF]) rfl (by rfl) (by kernel_rfl) (by kernel_rfl) (by kernel_rfl) (fun _ _ _ h => h) (by rfl) ?_
        try simp only [Act.put, zp]
        refine skipE (i := 38) (L := #[zT,zT,zT,zT,zT,zT,zT,zT,zT,zT,zT,zT,zT,zT,zT,zT,zT,zT,zT,zT,zT,zT,zT,zT,zT,zT,zT,zT,zT,zT,zT,zT,zT,zT,zT,zT,zT,zT,zT,zF,zF,zF,zF,zF,zF,zF,zF,zF,zF,zF,zF,zF,zF,zF,zF,zF,zF,zF,zF,zF,zF]) rfl (by rfl) (by kernel_rfl) (by kernel_rfl) (by kernel_rfl) (fun _ _ _ h => h) (by rfl) ?_
        try simp only [Act.put, zp]
        refine skipE (i := 39) (L := #[zT,zT,zT,zT,zT,zT,zT,zT,zT,zT,zT,zT,zT,zT,zT,zT,zT,zT,zT,zT,zT,zT,zT,zT,zT,zT,zT,zT,zT,zT,zT,zT,zT,zT,zT,zT,zT,zT,zT,zT,zF,zF,zF,zF,zF,zF,zF,zF,zF,zF,zF,zF,zF,zF,zF,zF,zF,zF,zF,zF,zF]) rfl (by rfl) (by kernel_rfl) (by kernel_rfl) (by kernel_rfl) (fun _ _ _ h => h) (by rfl) ?_
        try simp only [Act.put, zp]
        refine skipE (i := 40) (L := #[zT,zT,zT,zT,zT,zT,zT,zT,zT,zT,zT,zT,zT,zT,zT,zT,zT,zT,zT,zT,zT,zT,zT,zT,zT,zT,zT,zT,zT,zT,zT,zT,zT,zT,zT,zT,zT,zT,zT,zT,zT,zF,zF,zF,zF,zF,zF,zF,zF,zF,zF,zF,zF,zF,zF,zF,zF,zF,zF,zF,zF]) rfl (by rfl) (by kernel_rfl) (by kernel_rfl) (by kernel_rfl) (fun _ _ _ h => h) (by rfl) ?_
        try simp only [Act.put, zp]
        refine skipE (i := 41) (L := #[zT,zT,zT,zT,zT,zT,zT,zT,zT,zT,zT,zT,zT,zT,zT,zT,zT,zT,zT,zT,zT,zT,zT,zT,zT,zT,zT,zT,zT,zT,zT,zT,zT,zT,zT,zT,zT,zT,zT,zT,zT,zT,zF,zF,zF,zF,zF,zF,zF,zF,zF,zF,zF,zF,zF,zF,zF,zF,zF,zF,zF]) rfl (by rfl) (by kernel_rfl) (by kernel_rfl) (by kernel_rfl) (fun _ _ _ h => h) (by rfl) ?_
        try simp only [Act.put, zp]
        refine skipE (i := 42) (L := #[zT,zT,zT,zT,zT,zT,zT,zT,zT,zT,zT,zT,zT,zT,zT,zT,zT,zT,zT,zT,zT,zT,zT,zT,zT,zT,zT,zT,zT,zT,zT,zT,zT,zT,zT,zT,zT,zT,zT,zT,zT,zT,zT,zF,zF,zF,zF,zF,zF,zF,zF,zF,zF,zF,zF,zF,zF,zF,zF,zF,zF]) rfl (by rfl) (by kernel_rfl) (by kernel_rfl) (by kernel_rfl) (fun _ _ _ h => h) (by rfl) ?_
        try simp only [Act.put, zp]
        refine skipE (i := 43) (L := #[zT,zT,zT,zT,zT,zT,zT,zT,zT,zT,zT,zT,zT,zT,zT,zT,zT,zT,zT,zT,zT,zT,zT,zT,zT,zT,zT,zT,zT,zT,zT,zT,zT,zT,zT,zT,zT,zT,zT,zT,zT,zT,zT,zT,zF,zF,zF,zF,zF,zF,zF,zF,zF,zF,zF,zF,zF,zF,zF,zF,zF]) rfl (by rfl) (by kernel_rfl) (by kernel_rfl) (by kernel_rfl) (fun _ _ _ h => h) (by rfl) ?_
        try simp only [Act.put, zp]
        refine skipE (i := 44) (L := #[zT,zT,zT,zT,zT,zT,zT,zT,zT,zT,zT,zT,zT,zT,zT,zT,zT,zT,zT,zT,zT,zT,zT,zT,zT,zT,zT,zT,zT,zT,zT,zT,zT,zT,zT,zT,zT,zT,zT,zT,zT,zT,zT,zT,zT,zF,zF,zF,zF,zF,zF,zF,zF,zF,zF,zF,zF,zF,zF,zF,zF]) rfl (by rfl) (by kernel_rfl) (by kernel_rfl) (by kernel_rfl) (fun _ _ _ h => h) (by rfl) ?_
        try simp only [Act.put, zp]
        refine skipE (i := 45) (L := #[zT,zT,zT,zT,zT,zT,zT,zT,zT,zT,zT,zT,zT,zT,zT,zT,zT,zT,zT,zT,zT,zT,zT,zT,zT,zT,zT,zT,zT,zT,zT,zT,zT,zT,zT,zT,zT,zT,zT,zT,zT,zT,zT,zT,zT,zT,zF,zF,zF,zF,zF,zF,zF,zF,zF,zF,zF,zF,zF,zF,zF]) rfl (by rfl) (by kernel_rfl) (by kernel_rfl) (by kernel_rfl) (fun _ _ _ h => h) (by rfl) ?_
        try simp only [Act.put, zp]
        refine skipE (i := 46) (L := #[zT,zT,zT,zT,zT,zT,zT,zT,zT,zT,zT,zT,zT,zT,zT,zT,zT,zT,zT,zT,zT,zT,zT,zT,zT,zT,zT,zT,zT,zT,zT,zT,zT,zT,zT,zT,zT,zT,zT,zT,zT,zT,zT,zT,zT,zT,zT,zF,zF,zF,zF,zF,zF,zF,zF,zF,zF,zF,zF,zF,zF]) rfl (by rfl) (by kernel_rfl) (by kernel_rfl) (by kernel_rfl) (fun _ _ _ h => h) (by rfl) ?_
        try simp only [Act.put, zp]
        refine skipE (i := 47) (L := #[zT,zT,zT,zT,zT,zT,zT,zT,zT,zT,zT,zT,zT,zT,zT,zT,zT,zT,zT,zT,zT,zT,zT,zT,zT,zT,zT,zT,zT,zT,zT,zT,zT,zT,zT,zT,zT,zT,zT,zT,zT,zT,zT,zT,zT,zT,zT,zT,zF,zF,zF,zF,zF,zF,zF,zF,zF,zF,zF,zF,zF]) rfl (by rfl) (by kernel_rfl) (by kernel_rfl) (by kernel_rfl) (fun _ _ _ h => h) (by rfl) ?_
        try simp only [Act.put, zp]
        refine skipE (i := 48) (L := #[zT,zT,zT,zT,zT,zT,zT,zT,zT,zT,zT,zT,zT,zT,zT,zT,zT,zT,zT,zT,zT,zT,zT,zT,zT,zT,zT,zT,zT,zT,zT,zT,zT,zT,zT,zT,zT,zT,zT,zT,zT,zT,zT,zT,zT,zT,zT,zT,zT,zF,zF,zF,zF,zF,zF,zF,zF,zF,zF,zF,zF]) rfl (by rfl) (by kernel_rfl) (by kernel_rfl) (by kernel_rfl) (fun _ _ _ h => h) (by rfl) ?_
        try simp only [Act.put, zp]
        refine skipE (i := 49) (L := #[zT,zT,zT,zT,zT,zT,zT,zT,zT,zT,zT,zT,zT,zT,zT,zT,zT,zT,zT,zT,zT,zT,zT,zT,zT,zT,zT,zT,zT,zT,zT,zT,zT,zT,zT,zT,zT,zT,zT,zT,zT,zT,zT,zT,zT,zT,zT,zT,zT,zT,zF,zF,zF,zF,zF,zF,zF,zF,zF,zF,zF]) rfl (by rfl) (by kernel_rfl) (by kernel_rfl) (by kernel_rfl) (fun _ _ _ h => h) (by rfl) ?_
        try simp only [Act.put, zp]
        refine skipE (i := 50) (L := #[zT,zT,zT,zT,zT,zT,zT,zT,zT,zT,zT,zT,zT,zT,zT,zT,zT,zT,zT,zT,zT,zT,zT,zT,zT,zT,zT,zT,zT,zT,zT,zT,zT,zT,zT,zT,zT,zT,zT,zT,zT,zT,zT,zT,zT,zT,zT,zT,zT,zT,zT,zF,zF,zF,zF,zF,zF,zF,zF,zF,zF]) rfl (by rfl) (by kernel_rfl) (by kernel_rfl) (by kernel_rfl) (fun _ _ _ h => h) (by rfl) ?_
        try simp only [Act.put, zp]
        refine skipE (i := 51) (L := #[zT,zT,zT,zT,zT,zT,zT,zT,zT,zT,zT,zT,zT,zT,zT,zT,zT,zT,zT,zT,zT,zT,zT,zT,zT,zT,zT,zT,zT,zT,zT,zT,zT,zT,zT,zT,zT,zT,zT,zT,zT,zT,zT,zT,zT,zT,zT,zT,zT,zT,zT,zT,zF,zF,zF,zF,zF,zF,zF,zF,zF]) rfl (by rfl) (by kernel_rfl) (by kernel_rfl) (by kernel_rfl) (fun _ _ _ h => h) (by rfl) ?_
        try simp only [Act.put, zp]
        refine skipE (i := 52) (L := #[zT,zT,zT,zT,zT,zT,zT,zT,zT,zT,zT,zT,zT,zT,zT,zT,zT,zT,zT,zT,zT,zT,zT,zT,zT,zT,zT,zT,zT,zT,zT,zT,zT,zT,zT,zT,zT,zT,zT,zT,zT,zT,zT,zT,zT,zT,zT,zT,zT,zT,zT,zT,zT,zF,zF,zF,zF,zF,zF,zF,zF]) rfl (by rfl) (by kernel_rfl) (by kernel_rfl) (by kernel_rfl) (fun _ _ _ h => h) (by rfl) ?_
        try simp only [Act.put, zp]
        refine skipE (i := 53) (L := #[zT,zT,zT,zT,zT,zT,zT,zT,zT,zT,zT,zT,zT,zT,zT,zT,zT,zT,zT,zT,zT,zT,zT,zT,zT,zT,zT,zT,zT,zT,zT,zT,zT,zT,zT,zT,zT,zT,zT,zT,zT,zT,zT,zT,zT,zT,zT,zT,zT,zT,zT,zT,zT,zT,zF,zF,zF,zF,zF,zF,zF]) rfl (by rfl) (by kernel_rfl) (by kernel_rfl) (by kernel_rfl) (fun _ _ _ h => h) (by rfl) ?_
        try simp only [Act.put, zp]
        refine skipE (i := 54) (L := #[zT,zT,zT,zT,zT,zT,zT,zT,zT,zT,zT,zT,zT,zT,zT,zT,zT,zT,zT,zT,zT,zT,zT,zT,zT,zT,zT,zT,zT,zT,zT,zT,zT,zT,zT,zT,zT,zT,zT,zT,zT,zT,zT,zT,zT,zT,zT,zT,zT,zT,zT,zT,zT,zT,zT,zF,zF,zF,zF,zF,zF]) rfl (by rfl) (by kernel_rfl) (by kernel_rfl) (by kernel_rfl) (fun _ _ _ h => h) (by rfl) ?_
        try simp only [Act.put, zp]
        refine skipE (i := 55) (L := #[zT,zT,zT,zT,zT,zT,zT,zT,zT,zT,zT,zT,zT,zT,zT,zT,zT,zT,zT,zT,zT,zT,zT,zT,zT,zT,zT,zT,zT,zT,zT,zT,zT,zT,zT,zT,zT,zT,zT,zT,zT,zT,zT,zT,zT,zT,zT,zT,zT,zT,zT,zT,zT,zT,zT,zT,zF,zF,zF,zF,zF]) rfl (by rfl) (by kernel_rfl) (by kernel_rfl) (by kernel_rfl) (fun _ _ _ h => h) (by rfl) ?_
        try simp only [Act.put, zp]
        refine skipE (i := 56) (L := #[zT,zT,zT,zT,zT,zT,zT,zT,zT,zT,zT,zT,zT,zT,zT,zT,zT,zT,zT,zT,zT,zT,zT,zT,zT,zT,zT,zT,zT,zT,zT,zT,zT,zT,zT,zT,zT,zT,zT,zT,zT,zT,zT,zT,zT,zT,zT,zT,zT,zT,zT,zT,zT,zT,zT,zT,zT,zF,zF,zF,zF]) rfl (by rfl) (by kernel_rfl) (by kernel_rfl) (by kernel_rfl) (fun _ _ _ h => h) (by rfl) ?_
        try simp only [Act.put, zp]
        refine skipE (i := 57) (L := #[zT,zT,zT,zT,zT,zT,zT,zT,zT,zT,zT,zT,zT,zT,zT,zT,zT,zT,zT,zT,zT,zT,zT,zT,zT,zT,zT,zT,zT,zT,zT,zT,zT,zT,zT,zT,zT,zT,zT,zT,zT,zT,zT,zT,zT,zT,zT,zT,zT,zT,zT,zT,zT,zT,zT,zT,zT,zT,zF,zF,zF]) rfl (by rfl) (by kernel_rfl) (by kernel_rfl) (by kernel_rfl) (fun _ _ _ h => h) (by rfl) ?_
        try simp only [Act.put, zp]
        refine skipE (i := 58) (L := #[zT,zT,zT,zT,zT,zT,zT,zT,zT,zT,zT,zT,zT,zT,zT,zT,zT,zT,zT,zT,zT,zT,zT,zT,zT,zT,zT,zT,zT,zT,zT,zT,zT,zT,zT,zT,zT,zT,zT,zT,zT,zT,zT,zT,zT,zT,zT,zT,zT,zT,zT,zT,zT,zT,zT,zT,zT,zT,zT,zF,zF]) rfl (by rfl) (by kernel_rfl) (by kernel_rfl) (by kernel_rfl) (fun _ _ _ h => h) (by rfl) ?_
        try simp only [Act.put, zp]
        refine skipE (i := 59) (L := #[zT,zT,zT,zT,zT,zT,zT,zT,zT,zT,zT,zT,zT,zT,zT,zT,zT,zT,zT,zT,zT,zT,zT,zT,zT,zT,zT,zT,zT,zT,zT,zT,zT,zT,zT,zT,zT,zT,zT,zT,zT,zT,zT,zT,zT,zT,zT,zT,zT,zT,zT,zT,zT,zT,zT,zT,zT,zT,zT,zT,zF]) rfl (by rfl) (by kernel_rfl) (by kernel_rfl) (by kernel_rfl) (fun _ _ _ h => h) (by rfl) ?_
        try simp only [Act.put, zp]
        refine zE 60 #[zT,zT,zT,zT,zT,zT,zT,zT,zT,zT,zT,zT,zT,zT,zT,zT,zT,zT,zT,zT,zT,zT,zT,zT,zT,zT,zT,zT,zT,zT,zT,zT,zT,zT,zT,zT,zT,zT,zT,zT,zT,zT,zT,zT,zT,zT,zT,zT,zT,zT,zT,zT,zT,zT,zT,zT,zT,zT,zT,zT,zT] ?_ rfl ?hy38 ?rest38
        case hy38 => intro w; go_simp; (try with_reducible rfl)
        try simp only [Act.put, zp]
        refine doneE (by kernel_rfl) ?_ _
        go_wp2
        go_ret
        exact ⟨rfl, hb5⟩
      · skip
        have c3b : decide ((40 : Int) < (n : Int)) = false := by have := c3; simp; omega
        refine zE 7 #[zT,zT,zT,zT,zT,zT,zT,zT,zF,zF,zF,zF,zF,zF,zF,zF,zF,zF,zF,zF,zF,zF,zF,zF,zF,zF,zF,zF,zF,zF,zF,zF,zF,zF,zF,zF,zF,zF,zF,zF,zF,zF,zF,zF,zF,zF,zF,zF,zF,zF,zF,zF,zF,zF,zF,zF,zF,zF,zF,zF,zF] ?_ rfl ?hy39 ?rest39
        case hy39 => intro w; go_simp; (try with_reducible rfl)
        try simp only [Act.put, zp]
        refine zE 8 #[zT,zT,zT,zT,zT,zT,zT,zT,zT,zF,zF,zF,zF,zF,zF,zF,zF,zF,zF,zF,zF,zF,zF,zF,zF,zF,zF,zF,zF,zF,zF,zF,zF,zF,zF,zF,zF,zF,zF,zF,zF,zF,zF,zF,zF,zF,zF,zF,zF,zF,zF,zF,zF,zF,zF,zF,zF,zF,zF,zF,zF] ?_ rfl ?hy40 ?rest40
        case hy40 => intro w; go_simp; (try with_reducible rfl)
        try simp only [Act.put, zp]
        refine zE 9 #[zT,zT,zT,zT,zT,zT,zT,zT,zT,zT,zF,zF,zF,zF,zF,zF,zF,zF,zF,zF,zF,zF,zF,zF,zF,zF,zF,zF,zF,zF,zF,zF,zF,zF,zF,zF,zF,zF,zF,zF,zF,zF,zF,zF,zF,zF,zF,zF,zF,zF,zF,zF,zF,zF,zF,zF,zF,zF,zF,zF,zF] ?_ rfl ?hy41 ?rest41
        case hy41 => intro w; go_simp; (try with_reducible rfl)
        try simp only [Act.put, zp]
        refine zE 10 #[zT,zT,zT,zT,zT,zT,zT,zT,zT,zT,zT,zF,zF,zF,zF,zF,zF,zF,zF,zF,zF,zF,zF,zF,zF,zF,zF,zF,zF,zF,zF,zF,zF,zF,zF,zF,zF,zF,zF,zF,zF,zF,zF,zF,zF,zF,zF,zF,zF,zF,zF,zF,zF,zF,zF,zF,zF,zF,zF,zF,zF] ?_ rfl ?hy42 ?rest42
        case hy42 => intro w; go_simp; (try with_reducible rfl)
        try simp only [Act.put, zp]
        clear c3b
        refine skipE (i := 11) (L := #[zT,zT,zT,zT,zT,zT,zT,zT,zT,zT,zT,zT,zF,zF,zF,zF,zF,zF,zF,zF,zF,zF,zF,zF,zF,zF,zF,zF,zF,zF,zF,zF,zF,zF,zF,zF,zF,zF,zF,zF,zF,zF,zF,zF,zF,zF,zF,zF,zF,zF,zF,zF,zF,zF,zF,zF,zF,zF,zF,zF,zF]) rfl (by rfl) (by kernel_rfl) (by kernel_rfl) (by kernel_rfl) (fun _ _ _ h => h) (by rfl) ?_
        try simp only [Act.put, zp]
        refine skipE (i := 12) (L := #[zT,zT,zT,zT,zT,zT,zT,zT,zT,zT,zT,zT,zT,zF,zF,zF,zF,zF,zF,zF,zF,zF,zF,zF,zF,zF,zF,zF,zF,zF,zF,zF,zF,zF,zF,zF,zF,zF,zF,zF,zF,zF,zF,zF,zF,zF,zF,zF,zF,zF,zF,zF,zF,zF,zF,zF,zF,zF,zF,zF,zF]) rfl (by rfl) (by kernel_rfl) (by kernel_rfl) (by kernel_rfl) (fun _ _ _ h => h) (by rfl) ?_
        try simp only [Act.put, zp]
        refine skipE (i := 13) (L := #[zT,zT,zT,zT,zT,zT,zT,zT,zT,zT,zT,zT,zT,zT,zF,zF,zF,zF,zF,zF,zF,zF,zF,zF,zF,zF,zF,zF,zF,zF,zF,zF,zF,zF,zF,zF,zF,zF,zF,zF,zF,zF,zF,zF,zF,zF,zF,zF,zF,zF,zF,zF,zF,zF,zF,zF,zF,zF,zF,zF,zF]) rfl (by rfl) (by kernel_rfl) (by kernel_rfl) (by kernel_rfl) (fun _ _ _ h => h) (by rfl) ?_
        try simp only [Act.put, zp]
        refine skipE (i := 14) (L := #[zT,zT,zT,zT,zT,zT,zT,zT,zT,zT,zT,zT,zT,zT,zT,zF,zF,zF,zF,zF,zF,zF,zF,zF,zF,zF,zF,zF,zF,zF,zF,zF,zF,zF,zF,zF,zF,zF,zF,zF,zF,zF,zF,zF,zF,zF,zF,zF,zF,zF,zF,zF,zF,zF,zF,zF,zF,zF,zF,zF,zF]) rfl (by rfl) (by kernel_rfl) (by kernel_rfl) (by kernel_rfl) (fun _ _ _ h => h) (by rfl) ?_
        try simp only [Act.put, zp]
        refine skipE (i := 15) (L := #[zT,zT,zT,zT,zT,zT,zT,zT,zT,zT,zT,zT,zT,zT,zT,zT,zF,zF,zF,zF,zF,zF,zF,zF,zF,zF,zF,zF,zF,zF,zF,zF,zF,zF,zF,zF,zF,zF,zF,zF,zF,zF,zF,zF,zF,zF,zF,zF,zF,zF,zF,zF,zF,zF,zF,zF,zF,zF,zF,zF,zF]) rfl (by rfl) (by kernel_rfl) (by kernel_rfl) (by kernel_rfl) (fun _ _ _ h => h) (by rfl) ?_
        try simp only [Act.put, zp]
        refine skipE (i := 16) (L := #[zT,zT,zT,zT,zT,zT,zT,zT,zT,zT,zT,zT,zT,zT,zT,zT,zT,zF,zF,zF,zF,zF,zF,zF,zF,zF,zF,zF,zF,zF,zF,zF,zF,zF,zF,zF,zF,zF,zF,zF,zF,zF,zF,zF,zF,zF,zF,zF,zF,zF,zF,zF,zF,zF,zF,zF,zF,zF,zF,zF,zF]) rfl (by rfl) (by kernel_rfl) (by kernel_rfl) (by kernel_rfl) (fun _ _ _ h => h) (by rfl) ?_
        try simp only [Act.put, zp]
        refine skipE (i := 17) (L := #[zT,zT,zT,zT,zT,zT,zT,zT,zT,zT,zT,zT,zT,zT,zT,zT,zT,zT,zF,zF,zF,zF,zF,zF,zF,zF,zF,zF,zF,zF,zF,zF,zF,zF,zF,zF,zF,zF,zF,zF,zF,zF,zF,zF,zF,zF,zF,zF,zF,zF,zF,zF,zF,zF,zF,zF,zF,zF,zF,zF,zF]) rfl (by rfl) (by kernel_rfl) (by kernel_rfl) (by kernel_rfl) (fun _ _ _ h => h) (by rfl) ?_
        try simp only [Act.put, zp]
        refine skipE (i := 18) (L := #[zT,zT,zT,zT,zT,zT,zT,zT,zT,zT,zT,zT,zT,zT,zT,zT,zT,zT,zT,zF,zF,zF,zF,zF,zF,zF,zF,zF,zF,zF,zF,zF,zF,zF,zF,zF,zF,zF,zF,zF,zF,zF,zF,zF,zF,zF,zF,zF,zF,zF,zF,zF,zF,zF,zF,zF,zF,zF,zF,zF,zF]) rfl (by rfl) (by kernel_rfl) (by kernel_rfl) (by kernel_rfl) (fun _ _ _ h => h) (by rfl) ?_
        try simp only [Act.put, zp]
        refine skipE (i := 19) (L := #[zT,zT,zT,zT,zT,zT,zT,zT,zT,zT,zT,zT,zT,zT,zT,zT,zT,zT,zT,zT,zF,zF,zF,zF,zF,zF,zF,zF,zF,zF,zF,zF,zF,zF,zF,zF,zF,zF,zF,zF,zF,zF,zF,zF,zF,zF,zF,zF,zF,zF,zF,zF,zF,zF,zF,zF,zF,zF,zF,zF,zF]) rfl (by rfl) (by kernel_rfl) (by kernel_rfl) (by kernel_rfl) (fun _ _ _ h => h) (by rfl) ?_
        try simp only [Act.put, zp]
        refine skipE (i := 20) (L := #[zT,zT,zT,zT,zT,zT,zT,zT,zT,zT,zT,zT,zT,zT,zT,zT,zT,zT,zT,zT,zT,zF,zF,zF,zF,zF,zF,zF,zF,zF,zF,zF,zF,zF,zF,zF,zF,zF,zF,zF,zF,zF,zF,zF,zF,zF,zF,zF,zF,zF,zF,zF,zF,zF,zF,zF,zF,zF,zF,zF,zF]) rfl (by rfl) (by kernel_rfl) (by kernel_rfl) (by kernel_rfl) (fun _ _ _ h => h) (by rfl) ?_
        try simp only [Act.put, zp]
        refine skipE (i := 21) (L := #[zT,zT,zT,zT,zT,zT,zT,zT,zT,zT,zT,zT,zT,zT,zT,zT,zT,zT,zT,zT,zT,zT,zF,zF,zF,zF,zF,zF,zF,zF,zF,zF,zF,zF,zF,zF,zF,zF,zF,zF,zF,zF,zF,zF,zF,zF,zF,zF,zF,zF,zF,zF,zF,zF,zF,zF,zF,zF,zF,zF,zF]) rfl (by rfl) (by kernel_rfl) (by kernel_rfl) (by kernel_rfl) (fun _ _ _ h => h) (by rfl) ?_
        try simp only [Act.put, zp]
        refine skipE (i := 22) (L := #[zT,zT,zT,zT,zT,zT,zT,zT,zT,zT,zT,zT,zT,zT,zT,zT,zT,zT,zT,zT,zT,zT,zT,zF,zF,zF,zF,zF,zF,zF,zF,zF,zF,zF,zF,zF,zF,zF,zF,zF,zF,zF,zF,zF,zF,zF,zF,zF,zF,zF,zF,zF,zF,zF,zF,zF,zF,zF,zF,zF,zF]) rfl (by rfl) (by kernel_rfl) (by kernel_rfl) (by kernel_rfl) (fun _ _ _ h => h) (by rfl) ?_
        try simp only [Act.put, zp]
        refine skipE (i := 23) (L := #[zT,zT,zT,zT,zT,zT,zT,zT,zT,zT,zT,zT,zT,zT,zT,zT,zT,zT,zT,zT,zT,zT,zT,zT,zF,zF,zF,zF,zF,zF,zF,zF,zF,zF,zF,zF,zF,zF,zF,zF,zF,zF,zF,zF,zF,zF,zF,zF,zF,zF,zF,zF,zF,zF,zF,zF,zF,zF,zF,zF,zF]) rfl (by rfl) (by kernel_rfl) (by kernel_rfl) (by kernel_rfl) (fun _ _ _ h => h) (by rfl) ?_
        try simp only [Act.put, zp]
        refine skipE (i := 24) (L := #[zT,zT,zT,zT,zT,zT,zT,zT,zT,zT,zT,zT,zT,zT,zT,zT,zT,zT,zT,zT,zT,zT,zT,zT,zT,zF,zF,zF,zF,zF,zF,zF,zF,zF,zF,zF,zF,zF,zF,zF,zF,zF,zF,zF,zF,zF,zF,zF,zF,zF,zF,zF,zF,zF,zF,zF,zF,zF,zF,zF,zF]) rfl (by rfl) (by kernel_rfl) (by kernel_rfl) (by kernel_rfl) (fun _ _ _ h => h) (by rfl) ?_
        try simp only [Act.put, zp]
        refine skipE (i := 25) (L := #[zT,zT,zT,zT,zT,zT,zT,zT,zT,zT,zT,zT,zT,zT,zT,zT,zT,zT,zT,zT,zT,zT,zT,zT,zT,zT,zF,zF,zF,zF,zF,zF,zF,zF,zF,zF,zF,zF,zF,zF,zF,zF,zF,zF,zF,zF,zF,zF,zF,zF,zF,zF,zF,zF,zF,zF,zF,zF,zF,zF,zF]) rfl (by rfl) (by kernel_rfl) (by kernel_rfl) (by kernel_rfl) (fun _ _ _ h => h) (by rfl) ?_
        try simp only [Act.put, zp]
        refine skipE (i := 26) (L := #[zT,zT,zT,zT,zT,zT,zT,zT,zT,zT,zT,zT,zT,zT,zT,zT,zT,zT,zT,zT,zT,zT,zT,zT,zT,zT,zT,zF,zF,zF,zF,zF,zF,zF,zF,zF,zF,zF,zF,zF,zF,zF,zF,zF,zF,zF,zF,zF,zF,zF,zF,zF,zF,zF,zF,zF,zF,zF,zF,zF,zF]) rfl (by rfl) (by kernel_rfl) (by kernel_rfl) (by kernel_rfl) (fun _ _ _ h => h) (by rfl) ?_
        try simp only [Act.put, zp]
        refine skipE (i := 27) (L := #[zT,zT,zT,zT,zT,zT,zT,zT,zT,zT,zT,zT,zT,zT,zT,zT,zT,zT,zT,zT,zT,zT,zT,zT,zT,zT,zT,zT,zF,zF,zF,zF,zF,zF,zF,zF,zF,zF,zF,zF,zF,zF,zF,zF,zF,zF,zF,zF,zF,zF,zF,zF,zF,zF,zF,zF,zF,zF,zF,zF,zF]) rfl (by rfl) (by kernel_rfl) (by kernel_rfl) (by kernel_rfl) (fun _ _ _ h => h) (by rfl) ?_
        try simp only [Act.put, zp]
        refine skipE (i := 28) (L := #[zT,zT,zT,zT,zT,zT,zT,zT,zT,zT,zT,zT,zT,zT,zT,zT,zT,zT,zT,zT,zT,zT,zT,zT,zT,zT,zT,zT,zT,zF,zF,zF,zF,zF,zF,zF,zF,zF,zF,zF,zF,zF,zF,zF,zF,zF,zF,zF,zF,zF,zF,zF,zF,zF,zF,zF,zF,zF,zF,zF,zF]) rfl (by rfl) (by kernel_rfl) (by kernel_rfl) (by kernel_rfl) (fun _ _ _ h => h) (by rfl) ?_
        try simp only [Act.put, zp]
        refine skipE (i := 29) (L := #[zT,zT,zT,zT,zT,zT,zT,zT,zT,zT,zT,zT,zT,zT,zT,zT,zT,zT,zT,zT,zT,zT,zT,zT,zT,zT,zT,zT,zT,zT,zF,zF,zF,zF,zF,zF,zF,zF,zF,zF,zF,zF,zF,zF,zF,zF,zF,zF,zF,zF,zF,zF,zF,zF,zF,zF,zF,zF,zF,zF,zF]) rfl (by rfl) (by kernel_rfl) (by kernel_rfl) (by kernel_rfl) (fun _ _ _ h => h) (by rfl) ?_
        try simp only [Act.put, zp]
        refine skipE (i := 30) (L := #[zT,zT,zT,zT,zT,zT,zT,zT,zT,zT,zT,zT,zT,zT,zT,zT,zT,zT,zT,zT,zT,zT,zT,zT,zT,zT,zT,zT,zT,zT,zT,zF,zF,zF,zF,zF,zF,zF,zF,zF,zF,zF,zF,zF,zF,zF,zF,zF,zF,zF,zF,zF,zF,zF,zF,zF,zF,zF,zF,zF,zF]) rfl (by rfl) (by kernel_rfl) (by kernel_rfl) (by kernel_rfl) (fun _ _ _ h => h) (by rfl) ?_
        try simp only [Act.put, zp]
        refine skipE (i := 31) (L := #[zT,zT,zT,zT,zT,zT,zT,zT,zT,zT,zT,zT,zT,zT,zT,zT,zT,zT,zT,zT,zT,zT,zT,zT,zT,zT,zT,zT,zT,zT,zT,zT,zF,zF,zF,zF,zF,zF,zF,zF,zF,zF,zF,zF,zF,zF,zF,zF,zF,zF,zF,zF,zF,zF,zF,zF,zF,zF,zF,zF,zF]) rfl (by rfl) (by kernel_rfl) (by kernel_rfl) (by kernel_rfl) (fun _ _ _ h => h) (by rfl) ?_
        try simp only [Act.put, zp]
        refine skipE (i := 32) (L := #[zT,zT,zT,zT,zT,zT,zT,zT,zT,zT,zT,zT,zT,zT,zT,zT,zT,zT,zT,zT,zT,zT,zT,zT,zT,zT,zT,zT,zT,zT,zT,zT,zT,zF,zF,zF,zF,zF,zF,zF,zF,zF,zF,zF,zF,zF,zF,zF,zF,zF,zF,zF,zF,zF,zF,zF,zF,zF,zF,zF,zF]) rfl (by rfl) (by kernel_rfl) (by kernel_rfl) (by kernel_rfl) (fun _ _ _ h => h) (by rfl) ?_
        try simp only [Act.put, zp]
        refine skipE (i := 33) (L := #[zT,zT,zT,zT,zT,zT,zT,zT,zT,zT,zT,zT,zT,zT,zT,zT,zT,zT,zT,zT,zT,zT,zT,zT,zT,zT,zT,zT,zT,zT,zT,zT,zT,zT,zF,zF,zF,zF,zF,zF,zF,zF,zF,zF,zF,zF,zF,zF,zF,zF,zF,zF,zF,zF,zF,zF,zF,zF,zF,zF,zF]) rfl (by rfl) (by kernel_rfl) (by kernel_rfl) (by kernel_rfl) (fun _ _ _ h => h) (by rfl) ?_
        try simp only [Act.put, zp]
        refine skipE (i := 34) (L := #[zT,zT,zT,zT,zT,zT,zT,zT,zT,zT,zT,zT,zT,zT,zT,zT,zT,zT,zT,zT,zT,zT,zT,zT,zT,zT,zT,zT,zT,zT,zT,zT,zT,zT,zT,zF,zF,zF,zF,zF,zF,zF,zF,zF,zF,zF,zF,zF,zF,zF,zF,zF,zF,zF,zF,zF,zF,zF,zF,zF,zF]) rfl (by rfl) (by kernel_rfl) (by kernel_rfl) (by kernel_rfl) (fun _ _ _ h => h) (by rfl) ?_
        try simp only [Act.put, zp]
        refine skipE (i := 35) (L := #[zT,zT,zT,zT,zT,zT,zT,zT,zT,zT,zT,zT,zT,zT,zT,zT,zT,zT,zT,zT,zT,zT,zT,zT,zT,zT,zT,zT,zT,zT,zT,zT,zT,zT,zT,zT,zF,zF,zF,zF,zF,zF,zF,zF,zF,zF,zF,zF,zF,zF,zF,zF,zF,zF,zF,zF,zF,zF,zF,zF,zF]) rfl (by rfl) (by kernel_rfl) (by kernel_rfl) (by kernel_rfl) (fun _ _ _ h => h) (by rfl) ?_
        try simp only [Act.put, zp]
        refine skipE (i := 36) (L := #[zT,zT,zT,zT,zT,zT,zT,zT,zT,zT,zT,zT,zT,zT,zT,zT,zT,zT,zT,zT,zT,zT,zT,zT,zT,zT,zT,zT,zT,zT,zT,zT,zT,zT,zT,zT,zT,zF,zF,zF,zF,zF,zF,zF,zF,zF,zF,zF,zF,zF,zF,zF,zF,zF,zF,zF,zF,zF,zF,zF,zF]) rfl (by rfl) (by kernel_rfl) (by kernel_rfl) (by kernel_rfl) (fun _ _ _ h => h) (by rfl) ?_
        try simp only [Act.put, zp]
        refine skipE (i := 37) (L := #[zT,zT,zT,zT,zT,zT,zT,zT,zT,zT,zT,zT,zT,zT,zT,zT,zT,zT,zT,zT,zT,zT,zT,zT,zT,zT,zT,zT,zT,zT,zT,zT,zT,zT,zT,zT,zT,zT,zF,zF,zF,zF,zF,zF,zF,zF,zF,zF,zF,zF,zF,zF,zF,zF,zF,zF,zF,zF,zF,zF,zF]) rfl (by rfl) (by kernel_rfl) (by kernel_rfl) (by kernel_rfl) (fun _ _ _ h => h) (by rfl) ?_
        try simp only [Act.put, zp]
        refine skipE (i := 38) (L := #[zT,zT,zT,zT,zT,zT,zT,zT,zT,zT,zT,zT,zT,zT,zT,zT,zT,zT,zT,zT,zT,zT,zT,zT,zT,zT,zT,zT,zT,zT,zT,zT,zT,zT,zT,zT,zT,zT,zT,zF,zF,zF,zF,zF,zF,zF,zF,zF,zF,zF,zF,zF,zF,zF,zF,zF,zF,zF,zF,zF,zF]) rfl (by rfl) (by kernel_rfl) (by kernel_rfl) (by kernel_rfl) (fun _ _ _ h => h) (by rfl) ?_
        try simp only [Act.put, zp]
        refine skipE (i := 39) (L := #[zT,zT,zT,zT,zT,zT,zT,zT,zT,zT,zT,zT,zT,zT,zT,zT,zT,zT,zT,zT,zT,zT,zT,zT,zT,zT,zT,zT,zT,zT,zT,zT,zT,zT,zT,zT,zT,zT,zT,zT,zF,zF,zF,zF,zF,zF,zF,zF,zF,zF,zF,zF,zF,zF,zF,zF,zF,zF,zF,zF,zF]) rfl (by rfl) (by kernel_rfl) (by kernel_rfl) (by kernel_rfl) (fun _ _ _ h => h) (by rfl) ?_
        try simp only [Act.put, zp]
        refine skipE (i := 40) (L := #[zT,zT,zT,zT,zT,zT,zT,zT,zT,zT,zT,zT,zT,zT,zT,zT,zT,zT,zT,zT,zT,zT,zT,zT,zT,zT,zT,zT,zT,zT,zT,zT,zT,zT,zT,zT,zT,zT,zT,zT,zT,zF,zF,zF,zF,zF,zF,zF,zF,zF,zF,zF,zF,zF,zF,zF,zF,zF,zF,zF,zF]) rfl (by rfl) (by kernel_rfl) (by kernel_rfl) (by kernel_rfl) (fun _ _ _ h => h) (by rfl) ?_
        try simp only [Act.put, zp]
        refine skipE (i := 41) (L := #[zT,zT,zT,zT,zT,zT,zT,zT,zT,zT,zT,zT,zT,zT,zT,zT,zT,zT,zT,zT,zT,zT,zT,zT,zT,zT,zT,zT,zT,zT,zT,zT,zT,zT,zT,zT,zT,zT,zT,zT,zT,zT,zF,zF,zF,zF,zF,zF,zF,zF,zF,zF,zF,zF,zF,zF,zF,zF,zF,zF,zF]) rfl (by rfl) (by kernel_rfl) (by kernel_rfl) (by kernel_rfl) (fun _ _ _ h => h) (by rfl) ?_
        try simp only [Act.put, zp]
        refine skipE (i := 42) (L := #[zT,zT,zT,zT,zT,zT,zT,zT,zT,zT,zT,zT,zT,zT,zT,zT,zT,zT,zT,zT,zT,zT,zT,zT,zT,zT,zT,zT,zT,zT,zT,zT,zT,zT,zT,zT,zT,zT,zT,zT,zT,zT,zT,zF,zF,zF,zF,zF,zF,zF,zF,zF,zF,zF,zF,zF,zF,zF,zF,zF,zF]) rfl (by rfl) (by kernel_rfl) (by kernel_rfl) (by kernel_rfl) (fun _ _ _ h => h) (by rfl) ?_
        try simp only [Act.put, zp]
        refine skipE (i := 43) (L := #[zT,zT,zT,zT,zT,zT,zT,zT,zT,zT,zT,zT,zT,zT,zT,zT,zT,zT,zT,zT,zT,zT,zT,zT,zT,zT,zT,zT,zT,zT,zT,zT,zT,zT,zT,zT,zT,zT,zT,zT,zT,zT,zT,zT,zF,zF,zF,zF,zF,zF,zF,zF,zF,zF,zF,zF,zF,zF,zF,zF,zF]) rfl (by rfl) (by kernel_rfl) (by kernel_rfl) (by kernel_rfl) (fun _ _ _ h => h) (by rfl) ?_
        try simp only [Act.put, zp]
        refine skipE (i := 44) (L := #[zT,zT,zT,zT,zT,zT,zT,zT,zT,zT,zT,zT,zT,zT,zT,zT,zT,zT,zT,zT,zT,zT,zT,zT,zT,zT,zT,zT,zT,zT,zT,zT,zT,zT,zT,zT,zT,zT,zT,zT,zT,zT,zT,zT,zT,zF,zF,zF,zF,zF,zF,zF,zF,zF,zF,zF,zF,zF,zF,zF,zF]) rfl (by rfl) (by kernel_rfl) (by kernel_rfl) (by kernel_rfl) (fun _ _ _ h => h) (by rfl) ?_
        try simp only [Act.put, zp]
        refine skipE (i := 45) (L := #[zT,zT,zT,zT,zT,zT,zT,zT,zT,zT,zT,zT,zT,zT,zT,zT,zT,zT,zT,zT,zT,zT,zT,zT,zT,zT,zT,zT,zT,zT,zT,zT,zT,zT,zT,zT,zT,zT,zT,zT,zT,zT,zT,zT,zT,zT,zF,zF,zF,zF,zF,zF,zF,zF,zF,zF,zF,zF,zF,zF,zF]) rfl (by rfl) (by kernel_rfl) (by kernel_rfl) (by kernel_rfl) (fun _ _ _ h => h) (by rfl) ?_
        try simp only [Act.put, zp]
        refine skipE (i := 46) (L := #[zT,zT,zT,zT,zT,zT,zT,zT,zT,zT,zT,zT,zT,zT,zT,zT,zT,zT,zT,zT,zT,zT,zT,zT,zT,zT,zT,zT,zT,zT,zT,zT,zT,zT,zT,zT,zT,zT,zT,zT,zT,zT,zT,zT,zT,zT,zT,zF,zF,zF,zF,zF,zF,zF,zF,zF,zF,zF,zF,zF,zF]) rfl (by rfl) (by kernel_rfl) (by kernel_rfl) (by kernel_rfl) (fun _ _ _ h => h) (by rfl) ?_
        try simp only [Act.put, zp]
        refine skipE (i := 47) (L := #[zT,zT,zT,zT,zT,zT,zT,zT,zT,zT,zT,zT,zT,zT,zT,zT,zT,zT,zT,zT,zT,zT,zT,zT,zT,zT,zT,zT,zT,zT,zT,zT,zT,zT,zT,zT,zT,zT,zT,zT,zT,zT,zT,zT,zT,zT,zT,zT,zF,zF,zF,zF,zF,zF,zF,zF,zF,zF,zF,zF,zF]) rfl (by rfl) (by kernel_rfl) (by kernel_rfl) (by kernel_rfl) (fun _ _ _ h => h) (by rfl) ?_
        try simp only [Act.put, zp]
        refine skipE (i := 48) (L := #[zT,zT,zT,zT,zT,zT,zT,zT,zT,zT,zT,zT,zT,zT,zT,zT,zT,zT,zT,zT,zT,zT,zT,zT,zT,zT,zT,zT,zT,zT,zT,zT,zT,zT,zT,zT,zT,zT,zT,zT,zT,zT,zT,zT,zT,zT,zT,zT,zT,zF,zF,zF,zF,zF,zF,zF,zF,zF,zF,zF,zF]) rfl (by rfl) (by kernel_rfl) (by kernel_rfl) (by kernel_rfl) (fun _ _ _ h => h) (by rfl) ?_
        try simp only [Act.put, zp]
        refine skipE (i := 49) (L := #[zT,zT,zT,zT,zT,zT,zT,zT,zT,zT,zT,zT,zT,zT,zT,zT,zT,zT,zT,zT,zT,zT,zT,zT,zT,zT,zT,zT,zT,zT,zT,zT,zT,zT,zT,zT,zT,zT,zT,zT,zT,zT,zT,zT,zT,zT,zT,zT,zT,zT,zF,zF,zF,zF,zF,zF,zF,zF,zF,zF,zF]) rfl (by rfl) (by kernel_rfl) (by kernel_rfl) (by kernel_rfl) (fun _ _ _ h => h) (by rfl) ?_
        try simp only [Act.put, zp]
        refine skipE (i := 50) (L := #[zT,zT,zT,zT,zT,zT,zT,zT,zT,zT,zT,zT,zT,zT,zT,zT,zT,zT,zT,zT,zT,zT,zT,zT,zT,zT,zT,zT,zT,zT,zT,zT,zT,zT,zT,zT,zT,zT,zT,zT,zT,zT,zT,zT,zT,zT,zT,zT,zT,zT,zT,zF,zF,zF,zF,zF,zF,zF,zF,zF,zF]) rfl (by rfl) (by kernel_rfl) (by kernel_rfl) (by kernel_rfl) (fun _ _ _ h => h) (by rfl) ?_
        try simp only [Act.put, zp]
        refine skipE (i := 51) (L := #[zT,zT,zT,zT,zT,zT,zT,zT,zT,zT,zT,zT,zT,zT,zT,zT,zT,zT,zT,zT,zT,zT,zT,zT,zT,zT,zT,zT,zT,zT,zT,zT,zT,zT,zT,zT,zT,zT,zT,zT,zT,zT,zT,zT,zT,zT,zT,zT,zT,zT,zT,zT,zF,zF,zF,zF,zF,zF,zF,zF,zF]) rfl (by rfl) (by kernel_rfl) (by kernel_rfl) (by kernel_rfl) (fun _ _ _ h => h) (by rfl) ?_
        try simp only [Act.put, zp]
        refine skipE (i := 52) (L := #[zT,zT,zT,zT,zT,zT,zT,zT,zT,zT,zT,zT,zT,zT,zT,zT,zT,zT,zT,zT,zT,zT,zT,zT,zT,zT,zT,zT,zT,zT,zT,zT,zT,zT,zT,zT,zT,zT,zT,zT,zT,zT,zT,zT,zT,zT,zT,zT,zT,zT,zT,zT,zT,zF,zF,zF,zF,zF,zF,zF,zF]) rfl (by rfl) (by kernel_rfl) (by kernel_rfl) (by kernel_rfl) (fun _ _ _ h => h) (by rfl) ?_
        try simp only [Act.put, zp]
        refine skipE (i := 53) (L := #[zT,zT,zT,zT,zT,zT,zT,zT,zT,zT,zT,zT,zT,zT,zT,zT,zT,zT,zT,zT,zT,zT,zT,zT,zT,zT,zT,zT,zT,zT,zT,zT,zT,zT,zT,zT,zT,zT,zT,zT,zT,zT,zT,zT,zT,zT,zT,zT,zT,zT,zT,zT,zT,zT,zF,zF,zF,zF,zF,zF,zF]) rfl (by rfl) (by kernel_rfl) (by kernel_rfl) (by kernel_rfl) (fun _ _ _ h => h) (by rfl) ?_
        try simp only [Act.put, zp]
        refine skipE (i := 54) (L := #[zT,zT,zT,zT,zT,zT,zT,zT,zT,zT,zT,zT,zT,zT,zT,zT,zT,zT,zT,zT,zT,zT,zT,zT,zT,zT,zT,zT,zT,zT,zT,zT,zT,zT,zT,zT,zT,zT,zT,zT,zT,zT,zT,zT,zT,zT,zT,zT,zT,zT,zT,zT,zT,zT,zT,zF,zF,zF,zF,zF,zF]) rfl (by rfl) (by kernel_rfl) (by kernel_rfl) (by kernel_rfl) (fun _ _ _ h => h) (by rfl) ?_
        try simp only [Act.put, zp]
        refine skipE (i := 55) (L := #[zT,zT,zT,zT,zT,zT,zT,zT,zT,zT,zT,zT,zT,zT,zT,zT,zT,zT,zT,zT,zT,zT,zT,zT,zT,zT,zT,zT,zT,zT,zT,zT,zT,zT,zT,zT,zT,zT,zT,zT,zT,zT,zT,zT,zT,zT,zT,zT,zT,zT,zT,zT,zT,zT,zT,zT,zF,zF,zF,zF,zF]) rfl (by rfl) (by kernel_rfl) (by kernel_rfl) (by kernel_rfl) (fun _ _ _ h => h) (by rfl) ?_
        try simp only [Act.put, zp]
        refine skipE (i := 56) (L := #[zT,zT,zT,zT,zT,zT,zT,zT,zT,zT,zT,zT,zT,zT,zT,zT,zT,zT,zT,zT,zT,zT,zT,zT,zT,zT,zT,zT,zT,zT,zT,zT,zT,zT,zT,zT,zT,zT,zT,zT,zT,zT,zT,zT,zT,zT,zT,zT,zT,zT,zT,zT,zT,zT,zT,zT,zT,zF,zF,zF,zF]) rfl (by rfl) (by kernel_rfl) (by kernel_rfl) (by kernel_rfl) (fun _ _ _ h => h) (by rfl) ?_
        try simp only [Act.put, zp]
        refine skipE (i := 57) (L := #[zT,zT,zT,zT,zT,zT,zT,zT,zT,zT,zT,zT,zT,zT,zT,zT,zT,zT,zT,zT,zT,zT,zT,zT,zT,zT,zT,zT,zT,zT,zT,zT,zT,zT,zT,zT,zT,zT,zT,zT,zT,zT,zT,zT,zT,zT,zT,zT,zT,zT,zT,zT,zT,zT,zT,zT,zT,zT,zF,zF,zF]) rfl (by rfl) (by kernel_rfl) (by kernel_rfl) (by kernel_rfl) (fun _ _ _ h => h) (by rfl) ?_
        try simp only [Act.put, zp]
        refine skipE (i := 58) (L := #[zT,zT,zT,zT,zT,zT,zT,zT,zT,zT,zT,zT,zT,zT,zT,zT,zT,zT,zT,zT,zT,zT,zT,zT,zT,zT,zT,zT,zT,zT,zT,zT,zT,zT,zT,zT,zT,zT,zT,zT,zT,zT,zT,zT,zT,zT,zT,zT,zT,zT,zT,zT,zT,zT,zT,zT,zT,zT,zT,zF,zF]) rfl (by rfl) (by kernel_rfl) (by kernel_rfl) (by kernel_rfl) (fun _ _ _ h => h) (by rfl) ?_
        try simp only [Act.put, zp]
        refine zE 59 #[zT,zT,zT,zT,zT,zT,zT,zT,zT,zT,zT,zT,zT,zT,zT,zT,zT,zT,zT,zT,zT,zT,zT,zT,zT,zT,zT,zT,zT,zT,zT,zT,zT,zT,zT,zT,zT,zT,zT,zT,zT,zT,zT,zT,zT,zT,zT,zT,zT,zT,zT,zT,zT,zT,zT,zT,zT,zT,zT,zT,zF] ?_ rfl ?hy43 ?rest43
        case hy43 => intro w; go_simp; (try with_reducible rfl)
        try simp only [Act.put, zp]
        refine zE 60 #[zT,zT,zT,zT,zT,zT,zT,zT,zT,zT,zT,zT,zT,zT,zT,zT,zT,zT,zT,zT,zT,zT,zT,zT,zT,zT,zT,zT,zT,zT,zT,zT,zT,zT,zT,zT,zT,zT,zT,zT,zT,zT,zT,zT,zT,zT,zT,zT,zT,zT,zT,zT,zT,zT,zT,zT,zT,zT,zT,zT,zT] ?_ rfl ?hy44 ?rest44
        case hy44 => intro w; go_simp; (try with_reducible rfl)
        try simp only [Act.put, zp]
        have hno2 : Hid (∀ j (h : j < fs.length), j < i + 1 → (greatP fs[j].P || (false && decide (4 < bigP fs[j].P))) = false) := Lib.hid fun j hj h => by
         by_cases e : j = i
         · subst e
           rw [HF.out, HG.out]
           rfl
         · exact hno.out j hj (by omega)
        refine doneE (by kernel_rfl) ?_ _
        go_wp2
        go_roundw
        case rel => exact ⟨i + 1, by first | rfl | (congr 1; omega) | go_num, rfl, by omega, hb5, hno2⟩
        case measure => first | (simp [intOf]; done) | (simp [intOf]; omega)
 · skip
   have c3 : 40 < n := of_decide_eq_true HZ.out
   have c4 : ¬ n < 1024 := fun h => c1 ⟨c3, h⟩
   clear c1
   go_wp2
   go_loopw [2, 3] (fun ev iv wr => ∃ i : Nat, iv = .int .i64 i ∧ ev = .bool false ∧ i ≤ n ∧ Below w.heap.size w wr ∧ Hid (∀ j (h : j < fs.length), j < i → (greatP fs[j].P || (true && decide (4 < bigP fs[j].P))) = false)) (fun _ iv _ => n - (intOf iv).toNat)
   case atStart => exact ⟨0, rfl, rfl, Nat.zero_le _, Below.refl _ _, Lib.hid fun _ _ h => absurd h (Nat.not_lt_zero _)⟩
   case round =>
    obtain ⟨i, rfl, rfl, hi1, hb, hno⟩ := hrel
    by_cases hi : i < n
    rotate_left
    · have hk' : k = false := by
        rw [← HK2.out]
        exact any_none fun j hj => hno.out j hj (by have := HL.out; omega)
      subst hk'
      go_wp2
      go_ret
      exact ⟨rfl, hb⟩
    · have hi2 : i < fs.length := by rw [HL.out]; exact hi
      obtain ⟨b, off, hA, hb1, hb2, hc⟩ := (hL.below hb (Nat.le_refl _)).row (by omega)
      have hci := Lib.hid (hc i hi2)
      have hri := (hL.below hb (Nat.le_refl _)).rows i hi2
      obtain ⟨f, hf⟩ : ∃ f, fs[i] = f := ⟨_, rfl⟩
      rw [hf] at hci hri
      have HF := Lib.hid hf
      have hwrj : IntKind.i64.wrap ((i : Int) + 1) = ((i + 1 : Nat) : Int) := by rw [IntKind.wrap_i64]; omega
      clear hc hf
      subst hA
      have lw := hb.size
      obtain ⟨g, hg⟩ : ∃ g, greatP f.P = g := ⟨_, rfl⟩
      have HG := Lib.hid hg
      clear hg
      go_wp2_with fail
      refine region_E (Keeps wr) [] (m := 61) (L := #[zF,zF,zF,zF,zF,zF,zF,zF,zF,zF,zF,zF,zF,zF,zF,zF,zF,zF,zF,zF,zF,zF,zF,zF,zF,zF,zF,zF,zF,zF,zF,zF,zF,zF,zF,zF,zF,zF,zF,zF,zF,zF,zF,zF,zF,zF,zF,zF,zF,zF,zF,zF,zF,zF,zF,zF,zF,zF,zF,zF,zF]) (by kernel_rfl) (by rfl) (by rfl) ?_
      have kp0 : Keeps wr wr.drew := fun _ _ => rfl
      have b0 : Below wr.heap.size wr wr.drew := (Below.refl _ _).drew
      have hbw : b < wr.heap.size := by omega
      generalize wr.drew = v0 at *
      refine zE 0 #[zT,zF,zF,zF,zF,zF,zF,zF,zF,zF,zF,zF,zF,zF,zF,zF,zF,zF,zF,zF,zF,zF,zF,zF,zF,zF,zF,zF,zF,zF,zF,zF,zF,zF,zF,zF,zF,zF,zF,zF,zF,zF,zF,zF,zF,zF,zF,zF,zF,zF,zF,zF,zF,zF,zF,zF,zF,zF,zF,zF,zF] ?_ rfl ?hy45 ?rest45
      case hy45 => intro w; go_simp; (try with_reducible rfl)
      try simp only [Act.put, zp]
      refine zE 1 #[zT,zT,zF,zF,zF,zF,zF,zF,zF,zF,zF,zF,zF,zF,zF,zF,zF,zF,zF,zF,zF,zF,zF,zF,zF,zF,zF,zF,zF,zF,zF,zF,zF,zF,zF,zF,zF,zF,zF,zF,zF,zF,zF,zF,zF,zF,zF,zF,zF,zF,zF,zF,zF,zF,zF,zF,zF,zF,zF,zF,zF] ?_ rfl ?hy46 ?rest46
      case hy46 => intro w; go_simp; (try with_reducible rfl)
      try simp only [Act.put, zp]
      refine zE 2 #[zT,zT,zT,zF,zF,zF,zF,zF,zF,zF,zF,zF,zF,zF,zF,zF,zF,zF,zF,zF,zF,zF,zF,zF,zF,zF,zF,zF,zF,zF,zF,zF,zF,zF,zF,zF,zF,zF,zF,zF,zF,zF,zF,zF,zF,zF,zF,zF,zF,zF,zF,zF,zF,zF,zF,zF,zF,zF,zF,zF,zF] ?_ rfl ?hy47 ?rest47
      case hy47 => intro w; go_simp; (try with_reducible rfl)
      try simp only [Act.put, zp]
      refine zE 3 #[zT,zT,zT,zT,zF,zF,zF,zF,zF,zF,zF,zF,zF,zF,zF,zF,zF,zF,zF,zF,zF,zF,zF,zF,zF,zF,zF,zF,zF,zF,zF,zF,zF,zF,zF,zF,zF,zF,zF,zF,zF,zF,zF,zF,zF,zF,zF,zF,zF,zF,zF,zF,zF,zF,zF,zF,zF,zF,zF,zF,zF] ?_ rfl ?hy48 ?rest48
      case hy48 => intro w; go_simp; (try with_reducible rfl)
      try simp only [Act.put, zp]
      refine readE (i := 4) (L := #[zT,zT,zT,zT,zT,zF,zF,zF,zF,zF,zF,zF,zF,zF,zF,zF,zF,zF,zF,zF,zF,zF,zF,zF,zF,zF,zF,zF,zF,zF,zF,zF,zF,zF,zF,zF,zF,zF,zF,zF,zF,zF,zF,zF,zF,zF,zF,zF,zF,zF,zF,zF,zF,zF,zF,zF,zF,zF,zF,zF,zF]) (v := .agg #[.bool f.P.M.S.s, .slice f.P.M.S.A f.P.M.S.n f.P.M.S.c, .int .i64 f.P.M.S.e, .bool f.P.M.W.s, .slice f.P.M.W.A f.P.M.W.n f.P.M.W.c, .int .i64 f.P.M.W.e, .bool f.P.M.C.s, .slice f.P.M.C.A f.P.M.C.n f.P.M.C.c, .int .i64 f.P.M.C.e, .bool f.P.M.A.s, .slice f.P.M.A.A f.P.M.A.n f.P.M.A.c, .int .i64 f.P.M.A.e, .bool f.P.h, .int .i64 f.P.mn, .int .i64 f.P.mx, .slice f.P.A f.P.n f.P.c]) rfl (by rfl) (by kernel_rfl) (by kernel_rfl) (by kernel_rfl) (fun _ _ _ h => h) (by assumption) (by rfl) ?y4_true ?z4_true
      case y4_true =>
       intro w' h1
       obtain ⟨k_, k0, k1, k2, k3, k4, k5, k6, k7, k8, k9, k10, k11, k12, k13, k14, k15⟩ := hci.out.blk (h1 _ hbw)
       go_simp
      try simp only [Act.put, zp]
      refine stepK (i := 5) (L := #[zT,zT,zT,zT,zT,zT,zF,zF,zF,zF,zF,zF,zF,zF,zF,zF,zF,zF,zF,zF,zF,zF,zF,zF,zF,zF,zF,zF,zF,zF,zF,zF,zF,zF,zF,zF,zF,zF,zF,zF,zF,zF,zF,zF,zF,zF,zF,zF,zF,zF,zF,zF,zF,zF,zF,zF,zF,zF,zF,zF,zF]) rfl (by rfl) (by kernel_rfl) (by rfl) (fun K hK => ?_)
      go_simp
      go_at_call 13
      refine (GreatPart_any v0 f.P ((hri.more (Nat.le_refl _) lw).on b0) g HG.out).mono ?_
      rintro e' v1 ⟨rfl, j1⟩
      have b1 := later b0 j1
      have kp1 : Keeps wr v1 := fun p hp => b1.block p hp
      have hb5 := hb.trans (b1.mono lw)
      refine hK _ _ ⟨fun _ _ => kp1, ?_⟩
      clear hK K kp0
      try simp only []
      refine zE 6 #[zT,zT,zT,zT,zT,zT,zT,zF,zF,zF,zF,zF,zF,zF,zF,zF,zF,zF,zF,zF,zF,zF,zF,zF,zF,zF,zF,zF,zF,zF,zF,zF,zF,zF,zF,zF,zF,zF,zF,zF,zF,zF,zF,zF,zF,zF,zF,zF,zF,zF,zF,zF,zF,zF,zF,zF,zF,zF,zF,zF,zF] ?_ rfl ?hy51 ?rest51
      case hy51 => intro w; go_simp; (try with_reducible rfl)
      try simp only [Act.put, zp]
      cases g
      rotate_left
      · skip
        have hk' : k = true := by
         rw [← HK2.out]
         exact any_at hi2 (by rw [HF.out, HG.out]; rfl)
        subst hk'
        refine skipE (i := 7) (L := #[zT,zT,zT,zT,zT,zT,zT,zT,zF,zF,zF,zF,zF,zF,zF,zF,zF,zF,zF,zF,zF,zF,zF,zF,zF,zF,zF,zF,zF,zF,zF,zF,zF,zF,zF,zF,zF,zF,zF,zF,zF,zF,zF,zF,zF,zF,zF,zF,zF,zF,zF,zF,zF,zF,zF,zF,zF,zF,zF,zF,zF]) rfl (by rfl) (by kernel_rfl) (by kernel_rfl) (by kernel_rfl) (fun _ _ _ h => h) (by rfl) ?_
        try simp only [Act.put, zp]
        refine skipE (i := 8) (L := #[zT,zT,zT,zT,zT,zT,zT,zT,zT,zF,zF,zF,zF,zF,zF,zF,zF,zF,zF,zF,zF,zF,zF,zF,zF,zF,zF,zF,zF,zF,zF,zF,zF,zF,zF,zF,zF,zF,zF,zF,zF,zF,zF,zF,zF,zF,zF,zF,zF,zF,zF,zF,zF,zF,zF,zF,zF,zF,zF,zF,zF]) rfl (by rfl) (by kernel_rfl) (by kernel_rfl) (by kernel_rfl) (fun _ _ _ h => h) (by rfl) ?_
        try simp only [Act.put, zp]
        refine skipE (i := 9) (L := #[zT,zT,zT,zT,zT,zT,zT,zT,zT,zT,zF,zF,zF,zF,zF,zF,zF,zF,zF,zF,zF,zF,zF,zF,zF,zF,zF,zF,zF,zF,zF,zF,zF,zF,zF,zF,zF,zF,zF,zF,zF,zF,zF,zF,zF,zF,zF,zF,zF,zF,zF,zF,zF,zF,zF,zF,zF,zF,zF,zF,zF]) rfl (by rfl) (by kernel_rfl) (by kernel_rfl) (by kernel_rfl) (fun _ _ _ h => h) (by rfl) ?_
        try simp only [Act.put, zp]
        refine skipE (i := 10) (L := #[zT,zT,zT,zT,zT,zT,zT,zT,zT,zT,zT,zF,zF,zF,zF,zF,zF,zF,zF,zF,zF,zF,zF,zF,zF,zF,zF,zF,zF,zF,zF,zF,zF,zF,zF,zF,zF,zF,zF,zF,zF,zF,zF,zF,zF,zF,zF,zF,zF,zF,zF,zF,zF,zF,zF,zF,zF,zF,zF,zF,zF]) rfl (by rfl) (by kernel_rfl) (by kernel_rfl) (by kernel_rfl) (fun _ _ _ h => h) (by rfl) ?_
        try simp only [Act.put, zp]
        refine skipE (i := 11) (L := #[zT,zT,zT,zT,zT,zT,zT,zT,zT,zT,zT,zT,zF,zF,zF,zF,zF,zF,zF,zF,zF,zF,zF,zF,zF,zF,zF,zF,zF,zF,zF,zF,zF,zF,zF,zF,zF,zF,zF,zF,zF,zF,zF,zF,zF,zF,zF,zF,zF,zF,zF,zF,zF,zF,zF,zF,zF,zF,zF,zF,zF]) rfl (by rfl) (by kernel_rfl) (by kernel_rfl) (by kernel_rfl) (fun _ _ _ h => h) (by rfl) ?_
        try simp only [Act.put, zp]
        refine skipE (i := 12) (L := #[zT,zT,zT,zT,zT,zT,zT,zT,zT,zT,zT,zT,zT,zF,zF,zF,zF,zF,zF,zF,zF,zF,zF,zF,zF,zF,zF,zF,zF,zF,zF,zF,zF,zF,zF,zF,zF,zF,zF,zF,zF,zF,zF,zF,zF,zF,zF,zF,zF,zF,zF,zF,zF,zF,zF,zF,zF,zF,zF,zF,zF]) rfl (by rfl) (by kernel_rfl) (by kernel_rfl) (by kernel_rfl) (fun _ _ _ h => h) (by rfl) ?_
        try simp only [Act.put, zp]
        refine skipE (i := 13) (L := #[zT,zT,zT,zT,zT,zT,zT,zT,zT,zT,zT,zT,zT,zT,zF,zF,zF,zF,zF,zF,zF,zF,zF,zF,zF,zF,zF,zF,zF,zF,zF,zF,zF,zF,zF,zF,zF,zF,zF,zF,zF,zF,zF,zF,zF,zF,zF,zF,zF,zF,zF,zF,zF,zF,zF,zF,zF,zF,zF,zF,zF]) rfl (by rfl) (by kernel_rfl) (by kernel_rfl) (by kernel_rfl) (fun _ _ _ h => h) (by rfl) ?_
        try simp only [Act.put, zp]
        refine skipE (i := 14) (L := #[zT,zT,zT,zT,zT,zT,zT,zT,zT,zT,zT,zT,zT,zT,zT,zF,zF,zF,zF,zF,zF,zF,zF,zF,zF,zF,zF,zF,zF,zF,zF,zF,zF,zF,zF,zF,zF,zF,zF,zF,zF,zF,zF,zF,zF,zF,zF,zF,zF,zF,zF,zF,zF,zF,zF,zF,zF,zF,zF,zF,zF]) rfl (by rfl) (by kernel_rfl) (by kernel_rfl) (by kernel_rfl) (fun _ _ _ h => h) (by rfl) ?_
        try simp only [Act.put, zp]
        refine skipE (i := 15) (L := #[zT,zT,zT,zT,zT,zT,zT,zT,zT,zT,zT,zT,zT,zT,zT,zT,zF,zF,zF,zF,zF,zF,zF,zF,zF,zF,zF,zF,zF,zF,zF,zF,zF,zF,zF,zF,zF,zF,zF,zF,zF,zF,zF,zF,zF,zF,zF,zF,zF,zF,zF,zF,zF,zF,zF,zF,zF,zF,zF,zF,zF]) rfl (by rfl) (by kernel_rfl) (by kernel_rfl) (by kernel_rfl) (fun _ _ _ h => h) (by rfl) ?_
        try simp only [Act.put, zp]
        refine skipE (i := 16) (L := #[zT,zT,zT,zT,zT,zT,zT,zT,zT,zT,zT,zT,zT,zT,zT,zT,zT,zF,zF,zF,zF,zF,zF,zF,zF,zF,zF,zF,zF,zF,zF,zF,zF,zF,zF,zF,zF,zF,zF,zF,zF,zF,zF,zF,zF,zF,zF,zF,zF,zF,zF,zF,zF,zF,zF,zF,zF,zF,zF,zF,zF]) rfl (by rfl) (by kernel_rfl) (by kernel_rfl) (by kernel_rfl) (fun _ _ _ h => h) (by rfl) ?_
        try simp only [Act.put, zp]
        refine skipE (i := 17) (L := #[zT,zT,zT,zT,zT,zT,zT,zT,zT,zT,zT,zT,zT,zT,zT,zT,zT,zT,zF,zF,zF,zF,zF,zF,zF,zF,zF,zF,zF,zF,zF,zF,zF,zF,zF,zF,zF,zF,zF,zF,zF,zF,zF,zF,zF,zF,zF,zF,zF,zF,zF,zF,zF,zF,zF,zF,zF,zF,zF,zF,zF]) rfl (by rfl) (by kernel_rfl) (by kernel_rfl) (by kernel_rfl) (fun _ _ _ h => h) (by rfl) ?_
        try simp only [Act.put, zp]
        refine skipE (i := 18) (L := #[zT,zT,zT,zT,zT,zT,zT,zT,zT,zT,zT,zT,zT,zT,zT,zT,zT,zT,zT,zF,zF,zF,zF,zF,zF,zF,zF,zF,zF,zF,zF,zF,zF,zF,zF,zF,zF,zF,zF,zF,zF,zF,zF,zF,zF,zF,zF,zF,zF,zF,zF,zF,zF,zF,zF,zF,zF,zF,zF,zF,zF]) rfl (by rfl) (by kernel_rfl) (by kernel_rfl) (by kernel_rfl) (fun _ _ _ h => h) (by rfl) ?_
        try simp only [Act.put, zp]
        refine skipE (i := 19) (L := #[zT,zT,zT,zT,zT,zT,zT,zT,zT,zT,zT,zT,zT,zT,zT,zT,zT,zT,zT,zT,zF,zF,zF,zF,zF,zF,zF,zF,zF,zF,zF,zF,zF,zF,zF,zF,zF,zF,zF,zF,zF,zF,zF,zF,zF,zF,zF,zF,zF,zF,zF,zF,zF,zF,zF,zF,zF,zF,zF,zF,zF]) rfl (by rfl) (by kernel_rfl) (by kernel_rfl) (by kernel_rfl) (fun _ _ _ h => h) (by rfl) ?_
        try simp only [Act.put, zp]
        refine skipE (i := 20) (L := #[zT,zT,zT,zT,zT,zT,zT,zT,zT,zT,zT,zT,zT,zT,zT,zT,zT,zT,zT,zT,zT,zF,zF,zF,zF,zF,zF,zF,zF,zF,zF,zF,zF,zF,zF,zF,zF,zF,zF,zF,zF,zF,zF,zF,zF,zF,zF,zF,zF,zF,zF,zF,zF,zF,zF,zF,zF,zF,zF,zF,zF]) rfl (by rfl) (by kernel_rfl) (by kernel_rfl) (by kernel_rfl) (fun _ _ _ h => h) (by rfl) ?_
        try simp only [Act.put, zp]
        refine skipE (i := 21) (L := #[zT,zT,zT,zT,zT,zT,zT,zT,zT,zT,zT,zT,zT,zT,zT,zT,zT,zT,zT,zT,zT,zT,zF,zF,zF,zF,zF,zF,zF,zF,zF,zF,zF,zF,zF,zF,zF,zF,zF,zF,zF,zF,zF,zF,zF,zF,zF,zF,zF,zF,zF,zF,zF,zF,zF,zF,zF,zF,zF,zF,zF]) rfl (by rfl) (by kernel_rfl) (by kernel_rfl) (by kernel_rfl) (fun _ _ _ h => h) (by rfl) ?_
        try simp only [Act.put, zp]
        refine skipE (i := 22) (L := #[zT,zT,zT,zT,zT,zT,zT,zT,zT,zT,zT,zT,zT,zT,zT,zT,zT,zT,zT,zT,zT,zT,zT,zF,zF,zF,zF,zF,zF,zF,zF,zF,zF,zF,zF,zF,zF,zF,zF,zF,zF,zF,zF,zF,zF,zF,zF,zF,zF,zF,zF,zF,zF,zF,zF,zF,zF,zF,zF,zF,zF]) rfl (by rfl) (by kernel_rfl) (by kernel_rfl) (by kernel_rfl) (fun _ _ _ h => h) (by rfl) ?_
        try simp only [Act.put, zp]
        refine skipE (i := 23) (L := #[zT,zT,zT,zT,zT,zT,zT,zT,zT,zT,zT,zT,zT,zT,zT,zT,zT,zT,zT,zT,zT,zT,zT,zT,zF,zF,zF,zF,zF,zF,zF,zF,zF,zF,zF,zF,zF,zF,zF,zF,zF,zF,zF,zF,zF,zF,zF,zF,zF,zF,zF,zF,zF,zF,zF,zF,zF,zF,zF,zF,zF]) rfl (by rfl) (by kernel_rfl) (by kernel_rfl) (by kernel_rfl) (fun _ _ _ h => h) (by rfl) ?_
        try simp only [Act.put, zp]
        refine skipE (i := 24) (L := #[zT,zT,zT,zT,zT,zT,zT,zT,zT,zT,zT,zT,zT,zT,zT,zT,zT,zT,zT,zT,zT,zT,zT,zT,zT,zF,zF,zF,zF,zF,zF,zF,zF,zF,zF,zF,zF,zF,zF,zF,zF,zF,zF,zF,zF,zF,zF,zF,zF,zF,zF,zF,zF,zF,zF,zF,zF,zF,zF,zF,zF]) rfl (by rfl) (by kernel_rfl) (by kernel_rfl) (by kernel_rfl) (fun _ _ _ h => h) (by rfl) ?_
        try simp only [Act.put, zp]
        refine skipE (i := 25) (L := #[zT,zT,zT,zT,zT,zT,zT,zT,zT,zT,zT,zT,zT,zT,zT,zT,zT,zT,zT,zT,zT,zT,zT,zT,zT,zT,zF,zF,zF,zF,zF,zF,zF,zF,zF,zF,zF,zF,zF,zF,zF,zF,zF,zF,zF,zF,zF,zF,zF,zF,zF,zF,zF,zF,zF,zF,zF,zF,zF,zF,zF]) rfl (by rfl) (by kernel_rfl) (by kernel_rfl) (by kernel_rfl) (fun _ _ _ h => h) (by rfl) ?_
        try simp only [Act.put, zp]
        refine skipE (i := 26) (L := #[zT,zT,zT,zT,zT,zT,zT,zT,zT,zT,zT,zT,zT,zT,zT,zT,zT,zT,zT,zT,zT,zT,zT,zT,zT,zT,zT,zF,zF,zF,zF,zF,zF,zF,zF,zF,zF,zF,zF,zF,zF,zF,zF,zF,zF,zF,zF,zF,zF,zF,zF,zF,zF,zF,zF,zF,zF,zF,zF,zF,zF]) rfl (by rfl) (by kernel_rfl) (by kernel_rfl) (by kernel_rfl) (fun _ _ _ h => h) (by rfl) ?_
        try simp only [Act.put, zp]
        refine skipE (i := 27) (L := #[zT,zT,zT,zT,zT,zT,zT,zT,zT,zT,zT,zT,zT,zT,zT,zT,zT,zT,zT,zT,zT,zT,zT,zT,zT,zT,zT,zT,zF,zF,zF,zF,zF,zF,zF,zF,zF,zF,zF,zF,zF,zF,zF,zF,zF,zF,zF,zF,zF,zF,zF,zF,zF,zF,zF,zF,zF,zF,zF,zF,zF]) rfl (by rfl) (by kernel_rfl) (by kernel_rfl) (by kernel_rfl) (fun _ _ _ h => h) (by rfl) ?_
        try simp only [Act.put, zp]
        refine skipE (i := 28) (L := #[zT,zT,zT,zT,zT,zT,zT,zT,zT,zT,zT,zT,zT,zT,zT,zT,zT,zT,zT,zT,zT,zT,zT,zT,zT,zT,zT,zT,zT,zF,zF,zF,zF,zF,zF,zF,zF,zF,zF,zF,zF,zF,zF,zF,zF,zF,zF,zF,zF,zF,zF,zF,zF,zF,zF,zF,zF,zF,zF,zF,zF]) rfl (by rfl) (by kernel_rfl) (by kernel_rfl) (by kernel_rfl) (fun _ _ _ h => h) (by rfl) ?_
        try simp only [Act.put, zp]
        refine skipE (i := 29) (L := #[zT,zT,zT,zT,zT,zT,zT,zT,zT,zT,zT,zT,zT,zT,zT,zT,zT,zT,zT,zT,zT,zT,zT,zT,zT,zT,zT,zT,zT,zT,zF,zF,zF,zF,zF,zF,zF,zF,zF,zF,zF,zF,zF,zF,zF,zF,zF,zF,zF,zF,zF,zF,zF,zF,zF,zF,zF,zF,zF,zF,zF]) rfl (by rfl) (by kernel_rfl) (by kernel_rfl) (by kernel_rfl) (fun _ _ _ h => h) (by rfl) ?_
        try simp only [Act.put, zp]
        refine skipE (i := 30) (L := #[zT,zT,zT,zT,zT,zT,zT,zT,zT,zT,zT,zT,zT,zT,zT,zT,zT,zT,zT,zT,zT,zT,zT,zT,zT,zT,zT,zT,zT,zT,zT,zF,zF,zF,zF,zF,zF,zF,zF,zF,zF,zF,zF,zF,zF,zF,zF,zF,zF,zF,zF,zF,zF,zF,zF,zF,zF,zF,zF,zF,zF]) rfl (by rfl) (by kernel_rfl) (by kernel_rfl) (by kernel_rfl) (fun _ _ _ h => h) (by rfl) ?_
        try simp only [Act.put, zp]
        refine skipE (i := 31) (L := #[zT,zT,zT,zT,zT,zT,zT,zT,zT,zT,zT,zT,zT,zT,zT,zT,zT,zT,zT,zT,zT,zT,zT,zT,zT,zT,zT,zT,zT,zT,zT,zT,zF,zF,zF,zF,zF,zF,zF,zF,zF,zF,zF,zF,zF,zF,zF,zF,zF,zF,zF,zF,zF,zF,zF,zF,zF,zF,zF,zF,zF]) rfl (by rfl) (by kernel_rfl) (by kernel_rfl) (by kernel_rfl) (fun _ _ _ h => h) (by rfl) ?_
        try simp only [Act.put, zp]
        refine skipE (i := 32) (L := #[zT,zT,zT,zT,zT,zT,zT,zT,zT,zT,zT,zT,zT,zT,zT,zT,zT,zT,zT,zT,zT,zT,zT,zT,zT,zT,zT,zT,zT,zT,zT,zT,zT,zF,zF,zF,zF,zF,zF,zF,zF,zF,zF,zF,zF,zF,zF,zF,zF,zF,zF,zF,zF,zF,zF,zF,zF,zF,zF,zF,zF]) rfl (by rfl) (by kernel_rfl) (by kernel_rfl) (by kernel_rfl) (fun _ _ _ h => h) (by rfl) ?_
        try simp only [Act.put, zp]
        refine skipE (i := 33) (L := #[zT,zT,zT,zT,zT,zT,zT,zT,zT,zT,zT,zT,zT,zT,zT,zT,zT,zT,zT,zT,zT,zT,zT,zT,zT,zT,zT,zT,zT,zT,zT,zT,zT,zT,zF,zF,zF,zF,zF,zF,zF,zF,zF,zF,zF,zF,zF,zF,zF,zF,zF,zF,zF,zF,zF,zF,zF,zF,zF,zF,zF]) rfl (by rfl) (by kernel_rfl) (by kernel_rfl) (by kernel_rfl) (fun _ _ _ h => h) (by rfl) ?_
        try simp only [Act.put, zp]
        refine skipE (i := 34) (L := #[zT,zT,zT,zT,zT,zT,zT,zT,zT,zT,zT,zT,zT,zT,zT,zT,zT,zT,zT,zT,zT,zT,zT,zT,zT,zT,zT,zT,zT,zT,zT,zT,zT,zT,zT,zF,zF,zF,zF,zF,zF,zF,zF,zF,zF,zF,zF,zF,zF,zF,zF,zF,zF,zF,zF,zF,zF,zF,zF,zF,zF]) rfl (by rfl) (by kernel_rfl) (by kernel_rfl) (by kernel_rfl) (fun _ _ _ h => h) (by rfl) ?_
        try simp only [Act.put, zp]
        refine skipE (i := 35) (L := #[zT,zT,zT,zT,zT,zT,zT,zT,zT,zT,zT,zT,zT,zT,zT,zT,zT,zT,zT,zT,zT,zT,zT,zT,zT,zT,zT,zT,zT,zT,zT,zT,zT,zT,zT,zT,zF,zF,zF,zF,zF,zF,zF,zF,zF,zF,zF,zF,zF,zF,zF,zF,zF,zF,zF,zF,zF,zF,zF,zF,zF]) rfl (by rfl) (by kernel_rfl) (by kernel_rfl) (by kernel_rfl) (fun _ _ _ h => h) (by rfl) ?_
        try simp only [Act.put, zp]
        refine skipE (i := 36) (L := #[zT,zT,zT,zT,zT,zT,zT,zT,zT,zT,zT,zT,zT,zT,zT,zT,zT,zT,zT,zT,zT,zT,zT,zT,zT,zT,zT,zT,zT,zT,zT,zT,zT,zT,zT,zT,zT,zF,zF,zF,zF,zF,zF,zF,zF,zF,zF,zF,zF,zF,zF,zF,zF,zF,zF,zF,zF,zF,zF,zF,zF]) rfl (by rfl) (by kernel_rfl) (by kernel_rfl) (by kernel_rfl) (fun _ _ _ h => h) (by rfl) ?_
        try simp only [Act.put, zp]
        refine skipE (i := 37) (L := #[zT,zT,zT,zT,zT,zT,zT,zT,zT,zT,zT,zT,zT,zT,zT,zT,zT,zT,zT,zT,zT,zT,zT,zT,zT,zT,zT,zT,zT,zT,zT,zT,zT,zT,zT,zT,zT,zT,zF,zF,zF,zF,zF,zF,zF,zF,zF,zF,zF,zF,zF,zF,zF,zF,zF,zF,zF,zF,zF,zF,zF]) rfl (by rfl) (by kernel_rfl) (by kernel_rfl) (by kernel_rfl) (fun _ _ _ h => h) (by rfl) ?_
        try simp only [Act.put, zp]
        refine skipE (i := 38) (L := #[zT,zT,zT,zT,zT,zT,zT,zT,zT,zT,zT,zT,zT,zT,zT,zT,zT,zT,zT,zT,zT,zT,zT,zT,zT,zT,zT,zT,zT,zT,zT,zT,zT,zT,zT,zT,zT,zT,zT,zF,zF,zF,zF,zF,zF,zF,zF,zF,zF,zF,zF,zF,zF,zF,zF,zF,zF,zF,zF,zF,zF]) rfl (by rfl) (by kernel_rfl) (by kernel_rfl) (by kernel_rfl) (fun _ _ _ h => h) (by rfl) ?_
        try simp only [Act.put, zp]
        refine skipE (i := 39) (L := #[zT,zT,zT,zT,zT,zT,zT,zT,zT,zT,zT,zT,zT,zT,zT,zT,zT,zT,zT,zT,zT,zT,zT,zT,zT,zT,zT,zT,zT,zT,zT,zT,zT,zT,zT,zT,zT,zT,zT,zT,zF,zF,zF,zF,zF,zF,zF,zF,zF,zF,zF,zF,zF,zF,zF,zF,zF,zF,zF,zF,zF]) rfl (by rfl) (by kernel_rfl) (by kernel_rfl) (by kernel_rfl) (fun _ _ _ h => h) (by rfl) ?_
        try simp only [Act.put, zp]
        refine skipE (i := 40) (L := #[zT,zT,zT,zT,zT,zT,zT,zT,zT,zT,zT,zT,zT,zT,zT,zT,zT,zT,zT,zT,zT,zT,zT,zT,zT,zT,zT,zT,zT,zT,zT,zT,zT,zT,zT,zT,zT,zT,zT,zT,zT,zF,zF,zF,zF,zF,zF,zF,zF,zF,zF,zF,zF,zF,zF,zF,zF,zF,zF,zF,zF]) rfl (by rfl) (by kernel_rfl) (by kernel_rfl) (by kernel_rfl) (fun _ _ _ h => h) (by rfl) ?_
        try simp only [Act.put, zp]
        refine skipE (i := 41) (L := #[zT,zT,zT,zT,zT,zT,zT,zT,zT,zT,zT,zT,zT,zT,zT,zT,zT,zT,zT,zT,zT,zT,zT,zT,zT,zT,zT,zT,zT,zT,zT,zT,zT,zT,zT,zT,zT,zT,zT,zT,zT,zT,zF,zF,zF,zF,zF,zF,zF,zF,zF,zF,zF,zF,zF,zF,zF,zF,zF,zF,zF]) rfl (by rfl) (by kernel_rfl) (by kernel_rfl) (by kernel_rfl) (fun _ _ _ h => h) (by rfl) ?_
        try simp only [Act.put, zp]
        refine skipE (i := 42) (L := #[zT,zT,zT,zT,zT,zT,zT,zT,zT,zT,zT,zT,zT,zT,zT,zT,zT,zT,zT,zT,zT,zT,zT,zT,zT,zT,zT,zT,zT,zT,zT,zT,zT,zT,zT,zT,zT,zT,zT,zT,zT,zT,zT,zF,zF,zF,zF,zF,zF,zF,zF,zF,zF,zF,zF,zF,zF,zF,zF,zF,zF]) rfl (by rfl) (by kernel_rfl) (by kernel_rfl) (by kernel_rfl) (fun _ _ _ h => h) (by rfl) ?_
        try simp only [Act.put, zp]
        refine skipE (i := 43) (L := #[zT,zT,zT,zT,zT,zT,zT,zT,zT,zT,zT,zT,zT,zT,zT,zT,zT,zT,zT,zT,zT,zT,zT,zT,zT,zT,zT,zT,zT,zT,zT,zT,zT,zT,zT,zT,zT,zT,zT,zT,zT,zT,zT,zT,zF,zF,zF,zF,zF,zF,zF,zF,zF,zF,zF,zF,zF,zF,zF,zF,zF]) rfl (by rfl) (by kernel_rfl) (by kernel_rfl) (by kernel_rfl) (fun _ _ _ h => h) (by rfl) ?_
        try simp only [Act.put, zp]
        refine skipE (i := 44) (L := #[zT,zT,zT,zT,zT,zT,zT,zT,zT,zT,zT,zT,zT,zT,zT,zT,zT,zT,zT,zT,zT,zT,zT,zT,zT,zT,zT,zT,zT,zT,zT,zT,zT,zT,zT,zT,zT,zT,zT,zT,zT,zT,zT,zT,zT,zF,zF,zF,zF,zF,zF,zF,zF,zF,zF,zF,zF,zF,zF,zF,zF]) rfl (by rfl) (by kernel_rfl) (by kernel_rfl) (by kernel_rfl) (fun _ _ _ h => h) (by rfl) ?_
        try simp only [Act.put, zp]
        refine skipE (i := 45) (L := #[zT,zT,zT,zT,zT,zT,zT,zT,zT,zT,zT,zT,zT,zT,zT,zT,zT,zT,zT,zT,zT,zT,zT,zT,zT,zT,zT,zT,zT,zT,zT,zT,zT,zT,zT,zT,zT,zT,zT,zT,zT,zT,zT,zT,zT,zT,zF,zF,zF,zF,zF,zF,zF,zF,zF,zF,zF,zF,zF,zF,zF]) rfl (by rfl) (by kernel_rfl) (by kernel_rfl) (by kernel_rfl) (fun _ _ _ h => h) (by rfl) ?_
        try simp only [Act.put, zp]
        refine skipE (i := 46) (L := #[zT,zT,zT,zT,zT,zT,zT,zT,zT,zT,zT,zT,zT,zT,zT,zT,zT,zT,zT,zT,zT,zT,zT,zT,zT,zT,zT,zT,zT,zT,zT,zT,zT,zT,zT,zT,zT,zT,zT,zT,zT,zT,zT,zT,zT,zT,zT,zF,zF,zF,zF,zF,zF,zF,zF,zF,zF,zF,zF,zF,zF]) rfl (by rfl) (by kernel_rfl) (by kernel_rfl) (by kernel_rfl) (fun _ _ _ h => h) (by rfl) ?_
        try simp only [Act.put, zp]
        refine skipE (i := 47) (L := #[zT,zT,zT,zT,zT,zT,zT,zT,zT,zT,zT,zT,zT,zT,zT,zT,zT,zT,zT,zT,zT,zT,zT,zT,zT,zT,zT,zT,zT,zT,zT,zT,zT,zT,zT,zT,zT,zT,zT,zT,zT,zT,zT,zT,zT,zT,zT,zT,zF,zF,zF,zF,zF,zF,zF,zF,zF,zF,zF,zF,zF]) rfl (by rfl) (by kernel_rfl) (by kernel_rfl) (by kernel_rfl) (fun _ _ _ h => h) (by rfl) ?_
        try simp only [Act.put, zp]
        refine skipE (i := 48) (L := #[zT,zT,zT,zT,zT,zT,zT,zT,zT,zT,zT,zT,zT,zT,zT,zT,zT,zT,zT,zT,zT,zT,zT,zT,zT,zT,zT,zT,zT,zT,zT,zT,zT,zT,zT,zT,zT,zT,zT,zT,zT,zT,zT,zT,zT,zT,zT,zT,zT,zF,zF,zF,zF,zF,zF,zF,zF,zF,zF,zF,zF]) rfl (by rfl) (by kernel_rfl) (by kernel_rfl) (by kernel_rfl) (fun _ _ _ h => h) (by rfl) ?_
        try simp only [Act.put, zp]
        refine skipE (i := 49) (L := #[zT,zT,zT,zT,zT,zT,zT,zT,zT,zT,zT,zT,zT,zT,zT,zT,zT,zT,zT,zT,zT,zT,zT,zT,zT,zT,zT,zT,zT,zT,zT,zT,zT,zT,zT,zT,zT,zT,zT,zT,zT,zT,zT,zT,zT,zT,zT,zT,zT,zT,zF,zF,zF,zF,zF,zF,zF,zF,zF,zF,zF]) rfl (by rfl) (by kernel_rfl) (by kernel_rfl) (by kernel_rfl) (fun _ _ _ h => h) (by rfl) ?_
        try simp only [Act.put, zp]
        refine skipE (i := 50) (L := #[zT,zT,zT,zT,zT,zT,zT,zT,zT,zT,zT,zT,zT,zT,zT,zT,zT,zT,zT,zT,zT,zT,zT,zT,zT,zT,zT,zT,zT,zT,zT,zT,zT,zT,zT,zT,zT,zT,zT,zT,zT,zT,zT,zT,zT,zT,zT,zT,zT,zT,zT,zF,zF,zF,zF,zF,zF,zF,zF,zF,zF]) rfl (by rfl) (by kernel_rfl) (by kernel_rfl) (by kernel_rfl) (fun _ _ _ h => h) (by rfl) ?_
        try simp only [Act.put, zp]
        refine skipE (i := 51) (L := #[zT,zT,zT,zT,zT,zT,zT,zT,zT,zT,zT,zT,zT,zT,zT,zT,zT,zT,zT,zT,zT,zT,zT,zT,zT,zT,zT,zT,zT,zT,zT,zT,zT,zT,zT,zT,zT,zT,zT,zT,zT,zT,zT,zT,zT,zT,zT,zT,zT,zT,zT,zT,zF,zF,zF,zF,zF,zF,zF,zF,zF]) rfl (by rfl) (by kernel_rfl) (by kernel_rfl) (by kernel_rfl) (fun _ _ _ h => h) (by rfl) ?_
        try simp only [Act.put, zp]
        refine skipE (i := 52) (L := #[zT,zT,zT,zT,zT,zT,zT,zT,zT,zT,zT,zT,zT,zT,zT,zT,zT,zT,zT,zT,zT,zT,zT,zT,zT,zT,zT,zT,zT,zT,zT,zT,zT,zT,zT,zT,zT,zT,zT,zT,zT,zT,zT,zT,zT,zT,zT,zT,zT,zT,zT,zT,zT,zF,zF,zF,zF,zF,zF,zF,zF]) rfl (by rfl) (by kernel_rfl) (by kernel_rfl) (by kernel_rfl) (fun _ _ _ h => h) (by rfl) ?_
        try simp only [Act.put, zp]
        refine skipE (i := 53) (L := #[zT,zT,zT,zT,zT,zT,zT,zT,zT,zT,zT,zT,zT,zT,zT,zT,zT,zT,zT,zT,zT,zT,zT,zT,zT,zT,zT,zT,zT,zT,zT,zT,zT,zT,zT,zT,zT,zT,zT,zT,zT,zT,zT,zT,zT,zT,zT,zT,zT,zT,zT,zT,zT,zT,zF,zF,zF,zF,zF,zF,zF]) rfl (by rfl) (by kernel_rfl) (by kernel_rfl) (by kernel_rfl) (fun _ _ _ h => h) (by rfl) ?_
        try simp only [Act.put, zp]
        refine skipE (i := 54) (L := #[zT,zT,zT,zT,zT,zT,zT,zT,zT,zT,zT,zT,zT,zT,zT,zT,zT,zT,zT,zT,zT,zT,zT,zT,zT,zT,zT,zT,zT,zT,zT,zT,zT,zT,zT,zT,zT,zT,zT,zT,zT,zT,zT,zT,zT,zT,zT,zT,zT,zT,zT,zT,zT,zT,zT,zF,zF,zF,zF,zF,zF]) rfl (by rfl) (by kernel_rfl) (by kernel_rfl) (by kernel_rfl) (fun _ _ _ h => h) (by rfl) ?_
        try simp only [Act.put, zp]
        refine skipE (i := 55) (L := #[zT,zT,zT,zT,zT,zT,zT,zT,zT,zT,zT,zT,zT,zT,zT,zT,zT,zT,zT,zT,zT,zT,zT,zT,zT,zT,zT,zT,zT,zT,zT,zT,zT,zT,zT,zT,zT,zT,zT,zT,zT,zT,zT,zT,zT,zT,zT,zT,zT,zT,zT,zT,zT,zT,zT,zT,zF,zF,zF,zF,zF]) rfl (by rfl) (by kernel_rfl) (by kernel_rfl) (by kernel_rfl) (fun _ _ _ h => h) (by rfl) ?_
        try simp only [Act.put, zp]
        refine skipE (i := 56) (L := #[zT,zT,zT,zT,zT,zT,zT,zT,zT,zT,zT,zT,zT,zT,zT,zT,zT,zT,zT,zT,zT,zT,zT,zT,zT,zT,zT,zT,zT,zT,zT,zT,zT,zT,zT,zT,zT,zT,zT,zT,zT,zT,zT,zT,zT,zT,zT,zT,zT,zT,zT,zT,zT,zT,zT,zT,zT,zF,zF,zF,zF]) rfl (by rfl) (by kernel_rfl) (by kernel_rfl) (by kernel_rfl) (fun _ _ _ h => h) (by rfl) ?_
        try simp only [Act.put, zp]
        refine skipE (i := 57) (L := #[zT,zT,zT,zT,zT,zT,zT,zT,zT,zT,zT,zT,zT,zT,zT,zT,zT,zT,zT,zT,zT,zT,zT,zT,zT,zT,zT,zT,zT,zT,zT,zT,zT,zT,zT,zT,zT,zT,zT,zT,zT,zT,zT,zT,zT,zT,zT,zT,zT,zT,zT,zT,zT,zT,zT,zT,zT,zT,zF,zF,zF]) rfl (by rfl) (by kernel_rfl) (by kernel_rfl) (by kernel_rfl) (fun _ _ _ h => h) (by rfl) ?_
        try simp only [Act.put, zp]
        refine skipE (i := 58) (L := #[zT,zT,zT,zT,zT,zT,zT,zT,zT,zT,zT,zT,zT,zT,zT,zT,zT,zT,zT,zT,zT,zT,zT,zT,zT,zT,zT,zT,zT,zT,zT,zT,zT,zT,zT,zT,zT,zT,zT,zT,zT,zT,zT,zT,zT,zT,zT,zT,zT,zT,zT,zT,zT,zT,zT,zT,zT,zT,zT,zF,zF]) rfl (by rfl) (by kernel_rfl) (by kernel_rfl) (by kernel_rfl) (fun _ _ _ h => h) (by rfl) ?_
        try simp only [Act.put, zp]
        refine skipE (i := 59) (L := #[zT,zT,zT,zT,zT,zT,zT,zT,zT,zT,zT,zT,zT,zT,zT,zT,zT,zT,zT,zT,zT,zT,zT,zT,zT,zT,zT,zT,zT,zT,zT,zT,zT,zT,zT,zT,zT,zT,zT,zT,zT,zT,zT,zT,zT,zT,zT,zT,zT,zT,zT,zT,zT,zT,zT,zT,zT,zT,zT,zT,zF]) rfl (by rfl) (by kernel_rfl) (by kernel_rfl) (by kernel_rfl) (fun _ _ _ h => h) (by rfl) ?_
        try simp only [Act.put, zp]
        refine zE 60 #[zT,zT,zT,zT,zT,zT,zT,zT,zT,zT,zT,zT,zT,zT,zT,zT,zT,zT,zT,zT,zT,zT,zT,zT,zT,zT,zT,zT,zT,zT,zT,zT,zT,zT,zT,zT,zT,zT,zT,zT,zT,zT,zT,zT,zT,zT,zT,zT,zT,zT,zT,zT,zT,zT,zT,zT,zT,zT,zT,zT,zT] ?_ rfl ?hy52 ?rest52
        case hy52 => intro w; go_simp; (try with_reducible rfl)
        try simp only [Act.put, zp]
        refine doneE (by kernel_rfl) ?_ _
        go_wp2
        go_ret
        exact ⟨rfl, hb5⟩
      · skip
        have c3b : decide ((40 : Int) < (n : Int)) = true := by have := c3; simp; omega
        refine zE 7 #[zT,zT,zT,zT,zT,zT,zT,zT,zF,zF,zF,zF,zF,zF,zF,zF,zF,zF,zF,zF,zF,zF,zF,zF,zF,zF,zF,zF,zF,zF,zF,zF,zF,zF,zF,zF,zF,zF,zF,zF,zF,zF,zF,zF,zF,zF,zF,zF,zF,zF,zF,zF,zF,zF,zF,zF,zF,zF,zF,zF,zF] ?_ rfl ?hy53 ?rest53
        case hy53 => intro w; go_simp; (try with_reducible rfl)
        try simp only [Act.put, zp]
        refine zE 8 #[zT,zT,zT,zT,zT,zT,zT,zT,zT,zF,zF,zF,zF,zF,zF,zF,zF,zF,zF,zF,zF,zF,zF,zF,zF,zF,zF,zF,zF,zF,zF,zF,zF,zF,zF,zF,zF,zF,zF,zF,zF,zF,zF,zF,zF,zF,zF,zF,zF,zF,zF,zF,zF,zF,zF,zF,zF,zF,zF,zF,zF] ?_ rfl ?hy54 ?rest54
        case hy54 => intro w; go_simp; (try with_reducible rfl)
        try simp only [Act.put, zp]
        refine zE 9 #[zT,zT,zT,zT,zT,zT,zT,zT,zT,zT,zF,zF,zF,zF,zF,zF,zF,zF,zF,zF,zF,zF,zF,zF,zF,zF,zF,zF,zF,zF,zF,zF,zF,zF,zF,zF,zF,zF,zF,zF,zF,zF,zF,zF,zF,zF,zF,zF,zF,zF,zF,zF,zF,zF,zF,zF,zF,zF,zF,zF,zF] ?_ rfl ?hy55 ?rest55
        case hy55 => intro w; go_simp; (try with_reducible rfl)
        try simp only [Act.put, zp]
        refine zE 10 #[zT,zT,zT,zT,zT,zT,zT,zT,zT,zT,zT,zF,zF,zF,zF,zF,zF,zF,zF,zF,zF,zF,zF,zF,zF,zF,zF,zF,zF,zF,zF,zF,zF,zF,zF,zF,zF,zF,zF,zF,zF,zF,zF,zF,zF,zF,zF,zF,zF,zF,zF,zF,zF,zF,zF,zF,zF,zF,zF,zF,zF] ?_ rfl ?hy56 ?rest56
        case hy56 => intro w; go_simp; (try with_reducible rfl)
        try simp only [Act.put, zp]
        clear c3b
        have HB : Hid (f.P.M.S.n ≤ 42 ∧ f.P.M.W.n ≤ 42 ∧ f.P.M.C.n ≤ 42 ∧ f.P.M.A.n ≤ 42 ∧ f.P.n ≤ 70) := Lib.hid (by
         have h9 := HG.out
         unfold greatP at h9
         rw [Bool.or_eq_false_iff] at h9
         have h8 := great_not h9.1
         have l0 : f.P.M.S.xs.length = f.P.M.S.n := (hri.M.get 0).len
         have l1 : f.P.M.W.xs.length = f.P.M.W.n := (hri.M.get 1).len
         have l2 : f.P.M.C.xs.length = f.P.M.C.n := (hri.M.get 2).len
         have l3 : f.P.M.A.xs.length = f.P.M.A.n := (hri.M.get 3).len
         have g0 : f.P.M.S.xs.length ≤ 42 := (h8 0 (by decide)).1
         have g1 : f.P.M.W.xs.length ≤ 42 := (h8 1 (by decide)).1
         have g2 : f.P.M.C.xs.length ≤ 42 := (h8 2 (by decide)).1
         have g3 : f.P.M.A.xs.length ≤ 42 := (h8 3 (by decide)).1
         have h7 := of_decide_eq_false h9.2
         exact ⟨by omega, by omega, by omega, by omega, by omega⟩)
        have w1 : IntKind.i64.wrap ((f.P.M.S.n : Int) + f.P.M.W.n) = (f.P.M.S.n : Int) + f.P.M.W.n := by rw [IntKind.wrap_i64]; have := HB.out; omega
        have w2 : IntKind.i64.wrap ((f.P.M.S.n : Int) + f.P.M.W.n + f.P.M.C.n) = (f.P.M.S.n : Int) + f.P.M.W.n + f.P.M.C.n := by rw [IntKind.wrap_i64]; have := HB.out; omega
        have w3 : IntKind.i64.wrap ((f.P.M.S.n : Int) + f.P.M.W.n + f.P.M.C.n + f.P.M.A.n) = (f.P.M.S.n : Int) + f.P.M.W.n + f.P.M.C.n + f.P.M.A.n := by rw [IntKind.wrap_i64]; have := HB.out; omega
        refine zE 11 #[zT,zT,zT,zT,zT,zT,zT,zT,zT,zT,zT,zT,zF,zF,zF,zF,zF,zF,zF,zF,zF,zF,zF,zF,zF,zF,zF,zF,zF,zF,zF,zF,zF,zF,zF,zF,zF,zF,zF,zF,zF,zF,zF,zF,zF,zF,zF,zF,zF,zF,zF,zF,zF,zF,zF,zF,zF,zF,zF,zF,zF] ?_ rfl ?hy57 ?rest57
        case hy57 => intro w; go_simp; (try with_reducible rfl)
        try simp only [Act.put, zp]
        refine zE 12 #[zT,zT,zT,zT,zT,zT,zT,zT,zT,zT,zT,zT,zT,zF,zF,zF,zF,zF,zF,zF,zF,zF,zF,zF,zF,zF,zF,zF,zF,zF,zF,zF,zF,zF,zF,zF,zF,zF,zF,zF,zF,zF,zF,zF,zF,zF,zF,zF,zF,zF,zF,zF,zF,zF,zF,zF,zF,zF,zF,zF,zF] ?_ rfl ?hy58 ?rest58
        case hy58 => intro w; go_simp; (try with_reducible rfl)
        try simp only [Act.put, zp]
        refine zE 13 #[zT,zT,zT,zT,zT,zT,zT,zT,zT,zT,zT,zT,zT,zT,zF,zF,zF,zF,zF,zF,zF,zF,zF,zF,zF,zF,zF,zF,zF,zF,zF,zF,zF,zF,zF,zF,zF,zF,zF,zF,zF,zF,zF,zF,zF,zF,zF,zF,zF,zF,zF,zF,zF,zF,zF,zF,zF,zF,zF,zF,zF] ?_ rfl ?hy59 ?rest59
        case hy59 => intro w; go_simp; (try with_reducible rfl)
        try simp only [Act.put, zp]
        refine zE 14 #[zT,zT,zT,zT,zT,zT,zT,zT,zT,zT,zT,zT,zT,zT,zT,zF,zF,zF,zF,zF,zF,zF,zF,zF,zF,zF,zF,zF,zF,zF,zF,zF,zF,zF,zF,zF,zF,zF,zF,zF,zF,zF,zF,zF,zF,zF,zF,zF,zF,zF,zF,zF,zF,zF,zF,zF,zF,zF,zF,zF,zF] ?_ rfl ?hy60 ?rest60
        case hy60 => intro w; go_simp; (try with_reducible rfl)
        try simp only [Act.put, zp]
        refine zE 15 #[zT,zT,zT,zT,zT,zT,zT,zT,zT,zT,zT,zT,zT,zT,zT,zT,zF,zF,zF,zF,zF,zF,zF,zF,zF,zF,zF,zF,zF,zF,zF,zF,zF,zF,zF,zF,zF,zF,zF,zF,zF,zF,zF,zF,zF,zF,zF,zF,zF,zF,zF,zF,zF,zF,zF,zF,zF,zF,zF,zF,zF] ?_ rfl ?hy61 ?rest61
        case hy61 => intro w; go_simp; (try with_reducible rfl)
        try simp only [Act.put, zp]
        refine zE 16 #[zT,zT,zT,zT,zT,zT,zT,zT,zT,zT,zT,zT,zT,zT,zT,zT,zT,zF,zF,zF,zF,zF,zF,zF,zF,zF,zF,zF,zF,zF,zF,zF,zF,zF,zF,zF,zF,zF,zF,zF,zF,zF,zF,zF,zF,zF,zF,zF,zF,zF,zF,zF,zF,zF,zF,zF,zF,zF,zF,zF,zF] ?_ rfl ?hy62 ?rest62
        case hy62 => intro w; go_simp; (try with_reducible rfl)
        try simp only [Act.put, zp]
        refine zE 17 #[zT,zT,zT,zT,zT,zT,zT,zT,zT,zT,zT,zT,zT,zT,zT,zT,zT,zT,zF,zF,zF,zF,zF,zF,zF,zF,zF,zF,zF,zF,zF,zF,zF,zF,zF,zF,zF,zF,zF,zF,zF,zF,zF,zF,zF,zF,zF,zF,zF,zF,zF,zF,zF,zF,zF,zF,zF,zF,zF,zF,zF] ?_ rfl ?hy63 ?rest63
        case hy63 => intro w; go_simp; (try with_reducible rfl)
        try simp only [Act.put, zp]
        refine readE (i := 18) (L := #[zT,zT,zT,zT,zT,zT,zT,zT,zT,zT,zT,zT,zT,zT,zT,zT,zT,zT,zT,zF,zF,zF,zF,zF,zF,zF,zF,zF,zF,zF,zF,zF,zF,zF,zF,zF,zF,zF,zF,zF,zF,zF,zF,zF,zF,zF,zF,zF,zF,zF,zF,zF,zF,zF,zF,zF,zF,zF,zF,zF,zF]) (v := .slice f.P.M.S.A f.P.M.S.n f.P.M.S.c) rfl (by rfl) (by kernel_rfl) (by kernel_rfl) (by kernel_rfl) (fun _ _ _ h => h) (by assumption) (by rfl) ?y18_true ?z18_true
        case y18_true =>
         intro w' h1
         obtain ⟨k_, k0, k1, k2, k3, k4, k5, k6, k7, k8, k9, k10, k11, k12, k13, k14, k15⟩ := hci.out.blk (h1 _ hbw)
         have e_ : w'.cell? ⟨b, off + i * 17 + 1 + 1, none⟩ = some (.slice f.P.M.S.A f.P.M.S.n f.P.M.S.c) := k1
         go_simp
        try simp only [Act.put, zp]
        refine zE 19 #[zT,zT,zT,zT,zT,zT,zT,zT,zT,zT,zT,zT,zT,zT,zT,zT,zT,zT,zT,zT,zF,zF,zF,zF,zF,zF,zF,zF,zF,zF,zF,zF,zF,zF,zF,zF,zF,zF,zF,zF,zF,zF,zF,zF,zF,zF,zF,zF,zF,zF,zF,zF,zF,zF,zF,zF,zF,zF,zF,zF,zF] ?_ rfl ?hy65 ?rest65
        case hy65 => intro w; go_simp; (try with_reducible rfl)
        try simp only [Act.put, zp]
        refine zE 20 #[zT,zT,zT,zT,zT,zT,zT,zT,zT,zT,zT,zT,zT,zT,zT,zT,zT,zT,zT,zT,zT,zF,zF,zF,zF,zF,zF,zF,zF,zF,zF,zF,zF,zF,zF,zF,zF,zF,zF,zF,zF,zF,zF,zF,zF,zF,zF,zF,zF,zF,zF,zF,zF,zF,zF,zF,zF,zF,zF,zF,zF] ?_ rfl ?hy66 ?rest66
        case hy66 => intro w; go_simp; (try with_reducible rfl)
        try simp only [Act.put, zp]
        refine zE 21 #[zT,zT,zT,zT,zT,zT,zT,zT,zT,zT,zT,zT,zT,zT,zT,zT,zT,zT,zT,zT,zT,zT,zF,zF,zF,zF,zF,zF,zF,zF,zF,zF,zF,zF,zF,zF,zF,zF,zF,zF,zF,zF,zF,zF,zF,zF,zF,zF,zF,zF,zF,zF,zF,zF,zF,zF,zF,zF,zF,zF,zF] ?_ rfl ?hy67 ?rest67
        case hy67 => intro w; go_simp; (try with_reducible rfl)
        try simp only [Act.put, zp]
        refine zE 22 #[zT,zT,zT,zT,zT,zT,zT,zT,zT,zT,zT,zT,zT,zT,zT,zT,zT,zT,zT,zT,zT,zT,zT,zF,zF,zF,zF,zF,zF,zF,zF,zF,zF,zF,zF,zF,zF,zF,zF,zF,zF,zF,zF,zF,zF,zF,zF,zF,zF,zF,zF,zF,zF,zF,zF,zF,zF,zF,zF,zF,zF] ?_ rfl ?hy68 ?rest68
        case hy68 => intro w; go_simp; (try with_reducible rfl)
        try simp only [Act.put, zp]
        refine zE 23 #[zT,zT,zT,zT,zT,zT,zT,zT,zT,zT,zT,zT,zT,zT,zT,zT,zT,zT,zT,zT,zT,zT,zT,zT,zF,zF,zF,zF,zF,zF,zF,zF,zF,zF,zF,zF,zF,zF,zF,zF,zF,zF,zF,zF,zF,zF,zF,zF,zF,zF,zF,zF,zF,zF,zF,zF,zF,zF,zF,zF,zF] ?_ rfl ?hy69 ?rest69
        case hy69 => intro w; go_simp; (try with_reducible rfl)
        try simp only [Act.put, zp]
        refine zE 24 #[zT,zT,zT,zT,zT,zT,zT,zT,zT,zT,zT,zT,zT,zT,zT,zT,zT,zT,zT,zT,zT,zT,zT,zT,zT,zF,zF,zF,zF,zF,zF,zF,zF,zF,zF,zF,zF,zF,zF,zF,zF,zF,zF,zF,zF,zF,zF,zF,zF,zF,zF,zF,zF,zF,zF,zF,zF,zF,zF,zF,zF] ?_ rfl ?hy70 ?rest70
        case hy70 => intro w; go_simp; (try with_reducible rfl)
        try simp only [Act.put, zp]
        refine zE 25 #[zT,zT,zT,zT,zT,zT,zT,zT,zT,zT,zT,zT,zT,zT,zT,zT,zT,zT,zT,zT,zT,zT,zT,zT,zT,zT,zF,zF,zF,zF,zF,zF,zF,zF,zF,zF,zF,zF,zF,zF,zF,zF,zF,zF,zF,zF,zF,zF,zF,zF,zF,zF,zF,zF,zF,zF,zF,zF,zF,zF,zF] ?_ rfl ?hy71 ?rest71
        case hy71 => intro w; go_simp; (try with_reducible rfl)
        try simp only [Act.put, zp]
        refine zE 26 #[zT,zT,zT,zT,zT,zT,zT,zT,zT,zT,zT,zT,zT,zT,zT,zT,zT,zT,zT,zT,zT,zT,zT,zT,zT,zT,zT,zF,zF,zF,zF,zF,zF,zF,zF,zF,zF,zF,zF,zF,zF,zF,zF,zF,zF,zF,zF,zF,zF,zF,zF,zF,zF,zF,zF,zF,zF,zF,zF,zF,zF] ?_ rfl ?hy72 ?rest72
        case hy72 => intro w; go_simp; (try with_reducible rfl)
        try simp only [Act.put, zp]
        refine readE (i := 27) (L := #[zT,zT,zT,zT,zT,zT,zT,zT,zT,zT,zT,zT,zT,zT,zT,zT,zT,zT,zT,zT,zT,zT,zT,zT,zT,zT,zT,zT,zF,zF,zF,zF,zF,zF,zF,zF,zF,zF,zF,zF,zF,zF,zF,zF,zF,zF,zF,zF,zF,zF,zF,zF,zF,zF,zF,zF,zF,zF,zF,zF,zF]) (v := .slice f.P.M.W.A f.P.M.W.n f.P.M.W.c) rfl (by rfl) (by kernel_rfl) (by kernel_rfl) (by kernel_rfl) (fun _ _ _ h => h) (by assumption) (by rfl) ?y27_true ?z27_true
        case y27_true =>
         intro w' h1
         obtain ⟨k_, k0, k1, k2, k3, k4, k5, k6, k7, k8, k9, k10, k11, k12, k13, k14, k15⟩ := hci.out.blk (h1 _ hbw)
         have e_ : w'.cell? ⟨b, off + i * 17 + 1 + 3 + 1, none⟩ = some (.slice f.P.M.W.A f.P.M.W.n f.P.M.W.c) := k4
         go_simp
        try simp only [Act.put, zp]
        refine zE 28 #[zT,zT,zT,zT,zT,zT,zT,zT,zT,zT,zT,zT,zT,zT,zT,zT,zT,zT,zT,zT,zT,zT,zT,zT,zT,zT,zT,zT,zT,zF,zF,zF,zF,zF,zF,zF,zF,zF,zF,zF,zF,zF,zF,zF,zF,zF,zF,zF,zF,zF,zF,zF,zF,zF,zF,zF,zF,zF,zF,zF,zF] ?_ rfl ?hy74 ?rest74
        case hy74 => intro w; go_simp; (try with_reducible rfl)
        try simp only [Act.put, zp]
        refine zE 29 #[zT,zT,zT,zT,zT,zT,zT,zT,zT,zT,zT,zT,zT,zT,zT,zT,zT,zT,zT,zT,zT,zT,zT,zT,zT,zT,zT,zT,zT,zT,zF,zF,zF,zF,zF,zF,zF,zF,zF,zF,zF,zF,zF,zF,zF,zF,zF,zF,zF,zF,zF,zF,zF,zF,zF,zF,zF,zF,zF,zF,zF] ?_ rfl ?hy75 ?rest75
        case hy75 => intro w; go_simp; (try with_reducible rfl)
        try simp only [Act.put, zp]
        refine zE 30 #[zT,zT,zT,zT,zT,zT,zT,zT,zT,zT,zT,zT,zT,zT,zT,zT,zT,zT,zT,zT,zT,zT,zT,zT,zT,zT,zT,zT,zT,zT,zT,zF,zF,zF,zF,zF,zF,zF,zF,zF,zF,zF,zF,zF,zF,zF,zF,zF,zF,zF,zF,zF,zF,zF,zF,zF,zF,zF,zF,zF,zF] ?_ rfl ?hy76 ?rest76
        case hy76 => intro w; go_simp; (try with_reducible rfl)
        try simp only [Act.put, zp]
        refine zE 31 #[zT,zT,zT,zT,zT,zT,zT,zT,zT,zT,zT,zT,zT,zT,zT,zT,zT,zT,zT,zT,zT,zT,zT,zT,zT,zT,zT,zT,zT,zT,zT,zT,zF,zF,zF,zF,zF,zF,zF,zF,zF,zF,zF,zF,zF,zF,zF,zF,zF,zF,zF,zF,zF,zF,zF,zF,zF,zF,zF,zF,zF] ?_ rfl ?hy77 ?rest77
        case hy77 => intro w; go_simp; (try with_reducible rfl)
        try simp only [Act.put, zp]
        refine zE 32 #[zT,zT,zT,zT,zT,zT,zT,zT,zT,zT,zT,zT,zT,zT,zT,zT,zT,zT,zT,zT,zT,zT,zT,zT,zT,zT,zT,zT,zT,zT,zT,zT,zT,zF,zF,zF,zF,zF,zF,zF,zF,zF,zF,zF,zF,zF,zF,zF,zF,zF,zF,zF,zF,zF,zF,zF,zF,zF,zF,zF,zF] ?_ rfl ?hy78 ?rest78
        case hy78 => intro w; go_simp; (try with_reducible rfl)
        try simp only [Act.put, zp]
        refine zE 33 #[zT,zT,zT,zT,zT,zT,zT,zT,zT,zT,zT,zT,zT,zT,zT,zT,zT,zT,zT,zT,zT,zT,zT,zT,zT,zT,zT,zT,zT,zT,zT,zT,zT,zT,zF,zF,zF,zF,zF,zF,zF,zF,zF,zF,zF,zF,zF,zF,zF,zF,zF,zF,zF,zF,zF,zF,zF,zF,zF,zF,zF] ?_ rfl ?hy79 ?rest79
        case hy79 => intro w; go_simp; (try with_reducible rfl)
        try simp only [Act.put, zp]
        refine zE 34 #[zT,zT,zT,zT,zT,zT,zT,zT,zT,zT,zT,zT,zT,zT,zT,zT,zT,zT,zT,zT,zT,zT,zT,zT,zT,zT,zT,zT,zT,zT,zT,zT,zT,zT,zT,zF,zF,zF,zF,zF,zF,zF,zF,zF,zF,zF,zF,zF,zF,zF,zF,zF,zF,zF,zF,zF,zF,zF,zF,zF,zF] ?_ rfl ?hy80 ?rest80
        case hy80 => intro w; go_simp; (try with_reducible rfl)
        try simp only [Act.put, zp]
        refine zE 35 #[zT,zT,zT,zT,zT,zT,zT,zT,zT,zT,zT,zT,zT,zT,zT,zT,zT,zT,zT,zT,zT,zT,zT,zT,zT,zT,zT,zT,zT,zT,zT,zT,zT,zT,zT,zT,zF,zF,zF,zF,zF,zF,zF,zF,zF,zF,zF,zF,zF,zF,zF,zF,zF,zF,zF,zF,zF,zF,zF,zF,zF] ?_ rfl ?hy81 ?rest81
        case hy81 => intro w; go_simp; (try with_reducible rfl)
        try simp only [Act.put, zp]
        refine zE 36 #[zT,zT,zT,zT,zT,zT,zT,zT,zT,zT,zT,zT,zT,zT,zT,zT,zT,zT,zT,zT,zT,zT,zT,zT,zT,zT,zT,zT,zT,zT,zT,zT,zT,zT,zT,zT,zT,zF,zF,zF,zF,zF,zF,zF,zF,zF,zF,zF,zF,zF,zF,zF,zF,zF,zF,zF,zF,zF,zF,zF,zF] ?_ rfl ?hy82 ?rest82
        case hy82 => intro w; go_simp; (try with_reducible rfl)
        try simp only [Act.put, zp]
        refine readE (i := 37) (L := #[zT,zT,zT,zT,zT,zT,zT,zT,zT,zT,zT,zT,zT,zT,zT,zT,zT,zT,zT,zT,zT,zT,zT,zT,zT,zT,zT,zT,zT,zT,zT,zT,zT,zT,zT,zT,zT,zT,zF,zF,zF,zF,zF,zF,zF,zF,zF,zF,zF,zF,zF,zF,zF,zF,zF,zF,zF,zF,zF,zF,zF]) (v := .slice f.P.M.C.A f.P.M.C.n f.P.M.C.c) rfl (by rfl) (by kernel_rfl) (by kernel_rfl) (by kernel_rfl) (fun _ _ _ h => h) (by assumption) (by rfl) ?y37_true ?z37_true
        case y37_true =>
         intro w' h1
         obtain ⟨k_, k0, k1, k2, k3, k4, k5, k6, k7, k8, k9, k10, k11, k12, k13, k14, k15⟩ := hci.out.blk (h1 _ hbw)
         have e_ : w'.cell? ⟨b, off + i * 17 + 1 + 6 + 1, none⟩ = some (.slice f.P.M.C.A f.P.M.C.n f.P.M.C.c) := k7
         go_simp
        try simp only [Act.put, zp]
        refine zE 38 #[zT,zT,zT,zT,zT,zT,zT,zT,zT,zT,zT,zT,zT,zT,zT,zT,zT,zT,zT,zT,zT,zT,zT,zT,zT,zT,zT,zT,zT,zT,zT,zT,zT,zT,zT,zT,zT,zT,zT,zF,zF,zF,zF,zF,zF,zF,zF,zF,zF,zF,zF,zF,zF,zF,zF,zF,zF,zF,zF,zF,zF] ?_ rfl ?hy84 ?rest84
        case hy84 => intro w; go_simp; (try with_reducible rfl)
        try simp only [Act.put, zp]
        refine zE 39 #[zT,zT,zT,zT,zT,zT,zT,zT,zT,zT,zT,zT,zT,zT,zT,zT,zT,zT,zT,zT,zT,zT,zT,zT,zT,zT,zT,zT,zT,zT,zT,zT,zT,zT,zT,zT,zT,zT,zT,zT,zF,zF,zF,zF,zF,zF,zF,zF,zF,zF,zF,zF,zF,zF,zF,zF,zF,zF,zF,zF,zF] ?_ rfl ?hy85 ?rest85
        case hy85 => intro w; go_simp; (try with_reducible rfl)
        try simp only [Act.put, zp]
        refine zE 40 #[zT,zT,zT,zT,zT,zT,zT,zT,zT,zT,zT,zT,zT,zT,zT,zT,zT,zT,zT,zT,zT,zT,zT,zT,zT,zT,zT,zT,zT,zT,zT,zT,zT,zT,zT,zT,zT,zT,zT,zT,zT,zF,zF,zF,zF,zF,zF,zF,zF,zF,zF,zF,zF,zF,zF,zF,zF,zF,zF,zF,zF] ?_ rfl ?hy86 ?rest86
        case hy86 => intro w; go_simp; (try with_reducible rfl)
        try simp only [Act.put, zp]
        refine zE 41 #[zT,zT,zT,zT,zT,zT,zT,zT,zT,zT,zT,zT,zT,zT,zT,zT,zT,zT,zT,zT,zT,zT,zT,zT,zT,zT,zT,zT,zT,zT,zT,zT,zT,zT,zT,zT,zT,zT,zT,zT,zT,zT,zF,zF,zF,zF,zF,zF,zF,zF,zF,zF,zF,zF,zF,zF,zF,zF,zF,zF,zF] ?_ rfl ?hy87 ?rest87
        case hy87 => intro w; go_simp; (try with_reducible rfl)
        try simp only [Act.put, zp]
        refine zE 42 #[zT,zT,zT,zT,zT,zT,zT,zT,zT,zT,zT,zT,zT,zT,zT,zT,zT,zT,zT,zT,zT,zT,zT,zT,zT,zT,zT,zT,zT,zT,zT,zT,zT,zT,zT,zT,zT,zT,zT,zT,zT,zT,zT,zF,zF,zF,zF,zF,zF,zF,zF,zF,zF,zF,zF,zF,zF,zF,zF,zF,zF] ?_ rfl ?hy88 ?rest88
        case hy88 => intro w; go_simp; (try with_reducible rfl)
        try simp only [Act.put, zp]
        refine zE 43 #[zT,zT,zT,zT,zT,zT,zT,zT,zT,zT,zT,zT,zT,zT,zT,zT,zT,zT,zT,zT,zT,zT,zT,zT,zT,zT,zT,zT,zT,zT,zT,zT,zT,zT,zT,zT,zT,zT,zT,zT,zT,zT,zT,zT,zF,zF,zF,zF,zF,zF,zF,zF,zF,zF,zF,zF,zF,zF,zF,zF,zF] ?_ rfl ?hy89 ?rest89
        case hy89 => intro w; go_simp; (try with_reducible rfl)
        try simp only [Act.put, zp]
        refine zE 44 #[zT,zT,zT,zT,zT,zT,zT,zT,zT,zT,zT,zT,zT,zT,zT,zT,zT,zT,zT,zT,zT,zT,zT,zT,zT,zT,zT,zT,zT,zT,zT,zT,zT,zT,zT,zT,zT,zT,zT,zT,zT,zT,zT,zT,zT,zF,zF,zF,zF,zF,zF,zF,zF,zF,zF,zF,zF,zF,zF,zF,zF] ?_ rfl ?hy90 ?rest90
        case hy90 => intro w; go_simp; (try with_reducible rfl)
        try simp only [Act.put, zp]
        refine zE 45 #[zT,zT,zT,zT,zT,zT,zT,zT,zT,zT,zT,zT,zT,zT,zT,zT,zT,zT,zT,zT,zT,zT,zT,zT,zT,zT,zT,zT,zT,zT,zT,zT,zT,zT,zT,zT,zT,zT,zT,zT,zT,zT,zT,zT,zT,zT,zF,zF,zF,zF,zF,zF,zF,zF,zF,zF,zF,zF,zF,zF,zF] ?_ rfl ?hy91 ?rest91
        case hy91 => intro w; go_simp; (try with_reducible rfl)
        try simp only [Act.put, zp]
        refine zE 46 #[zT,zT,zT,zT,zT,zT,zT,zT,zT,zT,zT,zT,zT,zT,zT,zT,zT,zT,zT,zT,zT,zT,zT,zT,zT,zT,zT,zT,zT,zT,zT,zT,zT,zT,zT,zT,zT,zT,zT,zT,zT,zT,zT,zT,zT,zT,zT,zF,zF,zF,zF,zF,zF,zF,zF,zF,zF,zF,zF,zF,zF] ?_ rfl ?hy92 ?rest92
        case hy92 => intro w; go_simp; (try with_reducible rfl)
        try simp only [Act.put, zp]
        refine readE (i := 47) (L := #[zT,zT,zT,zT,zT,zT,zT,zT,zT,zT,zT,zT,zT,zT,zT,zT,zT,zT,zT,zT,zT,zT,zT,zT,zT,zT,zT,zT,zT,zT,zT,zT,zT,zT,zT,zT,zT,zT,zT,zT,zT,zT,zT,zT,zT,zT,zT,zT,zF,zF,zF,zF,zF,zF,zF,zF,zF,zF,zF,zF,zF]) (v := .slice f.P.M.A.A f.P.M.A.n f.P.M.A.c) rfl (by rfl) (by kernel_rfl) (by kernel_rfl) (by kernel_rfl) (fun _ _ _ h => h) (by assumption) (by rfl) ?y47_true ?z47_true
        case y47_true =>
         intro w' h1
         obtain ⟨k_, k0, k1, k2, k3, k4, k5, k6, k7, k8, k9, k10, k11, k12, k13, k14, k15⟩ := hci.out.blk (h1 _ hbw)
         have e_ : w'.cell? ⟨b, off + i * 17 + 1 + 9 + 1, none⟩ = some (.slice f.P.M.A.A f.P.M.A.n f.P.M.A.c) := k10
         go_simp
        try simp only [Act.put, zp]
        refine zE 48 #[zT,zT,zT,zT,zT,zT,zT,zT,zT,zT,zT,zT,zT,zT,zT,zT,zT,zT,zT,zT,zT,zT,zT,zT,zT,zT,zT,zT,zT,zT,zT,zT,zT,zT,zT,zT,zT,zT,zT,zT,zT,zT,zT,zT,zT,zT,zT,zT,zT,zF,zF,zF,zF,zF,zF,zF,zF,zF,zF,zF,zF] ?_ rfl ?hy94 ?rest94
        case hy94 => intro w; go_simp; (try with_reducible rfl)
        try simp only [Act.put, zp]
        refine zE 49 #[zT,zT,zT,zT,zT,zT,zT,zT,zT,zT,zT,zT,zT,zT,zT,zT,zT,zT,zT,zT,zT,zT,zT,zT,zT,zT,zT,zT,zT,zT,zT,zT,zT,zT,zT,zT,zT,zT,zT,zT,zT,zT,zT,zT,zT,zT,zT,zT,zT,zT,zF,zF,zF,zF,zF,zF,zF,zF,zF,zF,zF] ?_ rfl ?hy95 ?rest95
        case hy95 => intro w; go_simp; (try with_reducible rfl)
        try simp only [Act.put, zp]
        clear w1 w2 w3
        refine zE 50 #[zT,zT,zT,zT,zT,zT,zT,zT,zT,zT,zT,zT,zT,zT,zT,zT,zT,zT,zT,zT,zT,zT,zT,zT,zT,zT,zT,zT,zT,zT,zT,zT,zT,zT,zT,zT,zT,zT,zT,zT,zT,zT,zT,zT,zT,zT,zT,zT,zT,zT,zT,zF,zF,zF,zF,zF,zF,zF,zF,zF,zF] ?_ rfl ?hy96 ?rest96
        case hy96 => intro w; go_simp; (try with_reducible rfl)
        try simp only [Act.put, zp]
        refine zE 51 #[zT,zT,zT,zT,zT,zT,zT,zT,zT,zT,zT,zT,zT,zT,zT,zT,zT,zT,zT,zT,zT,zT,zT,zT,zT,zT,zT,zT,zT,zT,zT,zT,zT,zT,zT,zT,zT,zT,zT,zT,zT,zT,zT,zT,zT,zT,zT,zT,zT,zT,zT,zT,zF,zF,zF,zF,zF,zF,zF,zF,zF] ?_ rfl ?hy97 ?rest97
        case hy97 => intro w; go_simp; (try with_reducible rfl)
        try simp only [Act.put, zp]
        refine zE 52 #[zT,zT,zT,zT,zT,zT,zT,zT,zT,zT,zT,zT,zT,zT,zT,zT,zT,zT,zT,zT,zT,zT,zT,zT,zT,zT,zT,zT,zT,zT,zT,zT,zT,zT,zT,zT,zT,zT,zT,zT,zT,zT,zT,zT,zT,zT,zT,zT,zT,zT,zT,zT,zT,zF,zF,zF,zF,zF,zF,zF,zF] ?_ rfl ?hy98 ?rest98
        case hy98 => intro w; go_simp; (try with_reducible rfl)
        try simp only [Act.put, zp]
        refine zE 53 #[zT,zT,zT,zT,zT,zT,zT,zT,zT,zT,zT,zT,zT,zT,zT,zT,zT,zT,zT,zT,zT,zT,zT,zT,zT,zT,zT,zT,zT,zT,zT,zT,zT,zT,zT,zT,zT,zT,zT,zT,zT,zT,zT,zT,zT,zT,zT,zT,zT,zT,zT,zT,zT,zT,zF,zF,zF,zF,zF,zF,zF] ?_ rfl ?hy99 ?rest99
        case hy99 => intro w; go_simp; (try with_reducible rfl)
        try simp only [Act.put, zp]
        refine zE 54 #[zT,zT,zT,zT,zT,zT,zT,zT,zT,zT,zT,zT,zT,zT,zT,zT,zT,zT,zT,zT,zT,zT,zT,zT,zT,zT,zT,zT,zT,zT,zT,zT,zT,zT,zT,zT,zT,zT,zT,zT,zT,zT,zT,zT,zT,zT,zT,zT,zT,zT,zT,zT,zT,zT,zT,zF,zF,zF,zF,zF,zF] ?_ rfl ?hy100 ?rest100
        case hy100 => intro w; go_simp; (try with_reducible rfl)
        try simp only [Act.put, zp]
        refine readE (i := 55) (L := #[zT,zT,zT,zT,zT,zT,zT,zT,zT,zT,zT,zT,zT,zT,zT,zT,zT,zT,zT,zT,zT,zT,zT,zT,zT,zT,zT,zT,zT,zT,zT,zT,zT,zT,zT,zT,zT,zT,zT,zT,zT,zT,zT,zT,zT,zT,zT,zT,zT,zT,zT,zT,zT,zT,zT,zT,zF,zF,zF,zF,zF]) (v := .slice f.P.A f.P.n f.P.c) rfl (by rfl) (by kernel_rfl) (by kernel_rfl) (by kernel_rfl) (fun _ _ _ h => h) (by assumption) (by rfl) ?y55_true ?z55_true
        case y55_true =>
         intro w' h1
         obtain ⟨k_, k0, k1, k2, k3, k4, k5, k6, k7, k8, k9, k10, k11, k12, k13, k14, k15⟩ := hci.out.blk (h1 _ hbw)
         have e_ : w'.cell? ⟨b, off + i * 17 + 1 + 15, none⟩ = some (.slice f.P.A f.P.n f.P.c) := k15
         go_simp
        try simp only [Act.put, zp]
        have w4 : IntKind.i64.wrap ((f.P.M.S.n : Int) + f.P.M.W.n + f.P.M.C.n + f.P.M.A.n + f.P.n) = bigP f.P := by rw [IntKind.wrap_i64]; have := HB.out; unfold bigP; omega
        refine zE 56 #[zT,zT,zT,zT,zT,zT,zT,zT,zT,zT,zT,zT,zT,zT,zT,zT,zT,zT,zT,zT,zT,zT,zT,zT,zT,zT,zT,zT,zT,zT,zT,zT,zT,zT,zT,zT,zT,zT,zT,zT,zT,zT,zT,zT,zT,zT,zT,zT,zT,zT,zT,zT,zT,zT,zT,zT,zT,zF,zF,zF,zF] ?_ rfl ?hy102 ?rest102
        case hy102 => intro w; go_simp; (try with_reducible rfl)
        try simp only [Act.put, zp]
        refine zE 57 #[zT,zT,zT,zT,zT,zT,zT,zT,zT,zT,zT,zT,zT,zT,zT,zT,zT,zT,zT,zT,zT,zT,zT,zT,zT,zT,zT,zT,zT,zT,zT,zT,zT,zT,zT,zT,zT,zT,zT,zT,zT,zT,zT,zT,zT,zT,zT,zT,zT,zT,zT,zT,zT,zT,zT,zT,zT,zT,zF,zF,zF] ?_ rfl ?hy103 ?rest103
        case hy103 => intro w; go_simp; (try with_reducible rfl)
        try simp only [Act.put, zp]
        clear w4
        by_cases hs : 4 < bigP f.P
        · have hk' : k = true := by
            rw [← HK2.out]
            exact any_at hi2 (by rw [HF.out, HG.out, decide_eq_true hs]; rfl)
          subst hk'
          have hsb : decide ((4 : Int) < bigP f.P) = true := decide_eq_true hs
          refine zE 58 #[zT,zT,zT,zT,zT,zT,zT,zT,zT,zT,zT,zT,zT,zT,zT,zT,zT,zT,zT,zT,zT,zT,zT,zT,zT,zT,zT,zT,zT,zT,zT,zT,zT,zT,zT,zT,zT,zT,zT,zT,zT,zT,zT,zT,zT,zT,zT,zT,zT,zT,zT,zT,zT,zT,zT,zT,zT,zT,zT,zF,zF] ?_ rfl ?hy104 ?rest104
          case hy104 => intro w; go_simp; (try with_reducible rfl)
          try simp only [Act.put, zp]
          refine zE 59 #[zT,zT,zT,zT,zT,zT,zT,zT,zT,zT,zT,zT,zT,zT,zT,zT,zT,zT,zT,zT,zT,zT,zT,zT,zT,zT,zT,zT,zT,zT,zT,zT,zT,zT,zT,zT,zT,zT,zT,zT,zT,zT,zT,zT,zT,zT,zT,zT,zT,zT,zT,zT,zT,zT,zT,zT,zT,zT,zT,zT,zF] ?_ rfl ?hy105 ?rest105
          case hy105 => intro w; go_simp; (try with_reducible rfl)
          try simp only [Act.put, zp]
          refine zE 60 #[zT,zT,zT,zT,zT,zT,zT,zT,zT,zT,zT,zT,zT,zT,zT,zT,zT,zT,zT,zT,zT,zT,zT,zT,zT,zT,zT,zT,zT,zT,zT,zT,zT,zT,zT,zT,zT,zT,zT,zT,zT,zT,zT,zT,zT,zT,zT,zT,zT,zT,zT,zT,zT,zT,zT,zT,zT,zT,zT,zT,zT] ?_ rfl ?hy106 ?rest106
          case hy106 => intro w; go_simp; (try with_reducible rfl)
          try simp only [Act.put, zp]
          clear hsb
          refine doneE (by kernel_rfl) ?_ _
          go_wp2
          go_ret
          exact ⟨rfl, hb5⟩
        · 
          have hsb : decide ((4 : Int) < bigP f.P) = false := decide_eq_false hs
          refine zE 58 #[zT,zT,zT,zT,zT,zT,zT,zT,zT,zT,zT,zT,zT,zT,zT,zT,zT,zT,zT,zT,zT,zT,zT,zT,zT,zT,zT,zT,zT,zT,zT,zT,zT,zT,zT,zT,zT,zT,zT,zT,zT,zT,zT,zT,zT,zT,zT,zT,zT,zT,zT,zT,zT,zT,zT,zT,zT,zT,zT,zF,zF] ?_ rfl ?hy107 ?rest107
          case hy107 => intro w; go_simp; (try with_reducible rfl)
          try simp only [Act.put, zp]
          refine zE 59 #[zT,zT,zT,zT,zT,zT,zT,zT,zT,zT,zT,zT,zT,zT,zT,zT,zT,zT,zT,zT,zT,zT,zT,zT,zT,zT,zT,zT,zT,zT,zT,zT,zT,zT,zT,zT,zT,zT,zT,zT,zT,zT,zT,zT,zT,zT,zT,zT,zT,zT,zT,zT,zT,zT,zT,zT,zT,zT,zT,zT,zF] ?_ rfl ?hy108 ?rest108
          case hy108 => intro w; go_simp; (try with_reducible rfl)
          try simp only [Act.put, zp]
          refine zE 60 #[zT,zT,zT,zT,zT,zT,zT,zT,zT,zT,zT,zT,zT,zT,zT,zT,zT,zT,zT,zT,zT,zT,zT,zT,zT,zT,zT,zT,zT,zT,zT,zT,zT,zT,zT,zT,zT,zT,zT,zT,zT,zT,zT,zT,zT,zT,zT,zT,zT,zT,zT,zT,zT,zT,zT,zT,zT,zT,zT,zT,zT] ?_ rfl ?hy109 ?rest109
          case hy109 => intro w; go_simp; (try with_reducible rfl)
          try simp only [Act.put, zp]
          clear hsb
          have hno2 : Hid (∀ j (h : j < fs.length), j < i + 1 → (greatP fs[j].P || (true && decide (4 < bigP fs[j].P))) = false) := Lib.hid fun j hj h => by
           by_cases e : j = i
           · subst e
             rw [HF.out, HG.out]
             rw [decide_eq_false hs]; rfl
           · exact hno.out j hj (by omega)
          refine doneE (by kernel_rfl) ?_ _
          go_wp2
          go_roundw
          case rel => exact ⟨i + 1, by first | rfl | (congr 1; omega) | go_num, rfl, by omega, hb5, hno2⟩
          case measure => first | (simp [intOf]; done) | (simp [intOf]; omega)
end Ma
end Go.Proofs.Ytbbnbgllgomolaa
namespace Go.Proofs.Ytbbnbgllgomolaa
open Go.RowKit
namespace Ma
open Dp Dy
theorem wr_alloc {w : World} (o : Obj) {W : World} (hw : w.alloc o = W) : ∀ b off k, WrS w b off k → WrS W b off k := fun b off k hW => by
 by_cases hk : k = 0
 · subst hk
   exact fun j hj => absurd hj (Nat.not_lt_zero _)
 · refine hW.blk ?_
   rw [← hw]
   obtain ⟨⟨u, h1⟩, _⟩ := hW 0 (by omega)
   exact Below.heap_alloc _ _ _ (World.block_lt_of_cell? w _ h1)
/-- No row of a part lies in a block. -/
def offP (p : Pv) (k : Nat) : Prop := (∀ x, x < 4 → ∀ a, (p.M.get x).A = some a → 0 < (p.M.get x).n → a.block ≠ k) ∧ ∀ a, p.A = some a → 0 < p.n → a.block ≠ k
set_option maxHeartbeats 25600000 in
set_option maxRecDepth 100000 in
/-- headcountlaw20.spoil: just the rows' own range is written. -/
theorem spoil20_any (w : World) (p : Pv) (lo hi : Nat) (h : ∀ x, x < 4 → WrR w lo hi (p.M.get x).A (p.M.get x).n ∧ (p.M.get x).n ≤ 1000000) (h5 : WrR w lo hi p.A p.n) (hn5 : p.n ≤ 1000000) (hhi : hi ≤ w.heap.size) (hlo : lo ≤ w.heap.size) :
  Calls Try.prog 23 #[.agg #[.bool p.M.S.s, .slice p.M.S.A p.M.S.n p.M.S.c, .int .i64 p.M.S.e, .bool p.M.W.s, .slice p.M.W.A p.M.W.n p.M.W.c, .int .i64 p.M.W.e, .bool p.M.C.s, .slice p.M.C.A p.M.C.n p.M.C.c, .int .i64 p.M.C.e, .bool p.M.A.s, .slice p.M.A.A p.M.A.n p.M.A.c, .int .i64 p.M.A.e, .bool p.h, .int .i64 p.mn, .int .i64 p.mx, .slice p.A p.n p.c]] w fun e w' => e = .returned (.tuple #[]) ∧ Below lo w w' ∧ From hi w w' ∧ (∀ b off k, WrS w b off k → WrS w' b off k) ∧ ∀ k, k < w.heap.size → offP p k → w'.heap[k]? = w.heap[k]? := by
 obtain ⟨w1, hw, bP, j1, S1⟩ := alloc_p w p
 have wr1 := wr_alloc _ hw
 have f1 : From hi w w1 := fun k _ h2 => j1.block k h2
 obtain ⟨w2, hw2⟩ : ∃ U, w1.alloc (.cells #[.slice p.M.S.A p.M.S.n p.M.S.c, .slice p.M.W.A p.M.W.n p.M.W.c, .slice p.M.C.A p.M.C.n p.M.C.c, .slice p.M.A.A p.M.A.n p.M.A.c, .slice p.A p.n p.c] 23) = U := ⟨_, rfl⟩
 have wr2 := wr_alloc _ hw2
 have j2 : Below w1.heap.size w1 w2 := by rw [← hw2]; exact (Below.refl _ _).alloc (Nat.le_refl _) _
 have hB : w2.heap[w1.heap.size]? = some (.cells #[.slice p.M.S.A p.M.S.n p.M.S.c, .slice p.M.W.A p.M.W.n p.M.W.c, .slice p.M.C.A p.M.C.n p.M.C.c, .slice p.M.A.A p.M.A.n p.M.A.c, .slice p.A p.n p.c] 23 (0, 0)) := by rw [← hw2]; exact heap_alloc_last _ _
 have s2 : w1.heap.size < w2.heap.size := by rw [← hw2]; simp
 have b2 : Below lo w w2 := (j1.mono hlo).trans (j2.mono (by omega))
 have f2 : From hi w w2 := fun k h1 h2 => (j2.block k (by omega)).trans (f1 k h1 h2)
 have k2 : ∀ b off k, WrS w b off k → WrS w2 b off k := fun b off k hW => wr2 _ _ _ (wr1 _ _ _ hW)
 have SLs : ∀ i, i < 5 → ∃ (A : Option Addr) (n c : Nat), w2.cell? ⟨w1.heap.size, i, none⟩ = some (.slice A n c) ∧ WrR w2 lo hi A n ∧ n ≤ 1000000 ∧ (∀ k, offP p k → ∀ a, A = some a → 0 < n → a.block ≠ k) := fun i hi5 => by
  have hc : ∀ k v, (#[.slice p.M.S.A p.M.S.n p.M.S.c, .slice p.M.W.A p.M.W.n p.M.W.c, .slice p.M.C.A p.M.C.n p.M.C.c, .slice p.M.A.A p.M.A.n p.M.A.c, .slice p.A p.n p.c] : Array Value)[k]? = some v → w2.cell? ⟨w1.heap.size, k, none⟩ = some v := fun k v hk => by
   simp [World.cell?, hB]
   simpa using hk
  have hi' : i = 0 ∨ i = 1 ∨ i = 2 ∨ i = 3 ∨ i = 4 := by omega
  rcases hi' with rfl | rfl | rfl | rfl | rfl
  · exact ⟨_, _, _, hc 0 _ rfl, (h 0 (by decide)).1.keep k2, (h 0 (by decide)).2, fun k hk => hk.1 0 (by decide)⟩
  · exact ⟨_, _, _, hc 1 _ rfl, (h 1 (by decide)).1.keep k2, (h 1 (by decide)).2, fun k hk => hk.1 1 (by decide)⟩
  · exact ⟨_, _, _, hc 2 _ rfl, (h 2 (by decide)).1.keep k2, (h 2 (by decide)).2, fun k hk => hk.1 2 (by decide)⟩
  · exact ⟨_, _, _, hc 3 _ rfl, (h 3 (by decide)).1.keep k2, (h 3 (by decide)).2, fun k hk => hk.1 3 (by decide)⟩
  · exact ⟨_, _, _, hc 4 _ rfl, h5.keep k2, hn5, fun k hk => hk.2⟩
 have HS := Lib.hid SLs
 have K2 := Lib.hid k2
 obtain ⟨⟨k0, k1, k2, k3, k4, k5, k6, k7, k8, k9, k10, k11, k12, k13, k14, k15⟩, kf⟩ := PBox.cell bP
 clear SLs h h5 k2 wr1 wr2 f1 hn5 hB
 go_enter Try.func23, Try.ntmps23
 go_wp2
 try rw [hw2]
 try clear hw2
 try clear hw
 clear k0 k1 k2 k3 k4 k5 k6 k7 k8 k9 k10 k11 k12 k13 k14 k15 kf bP
 go_loopw [3, 4] (fun iv _ wr => ∃ i : Nat, iv = .int .i64 i ∧ i ≤ 5 ∧ wr.heap[w1.heap.size]? = w2.heap[w1.heap.size]? ∧ Below lo w wr ∧ From hi w wr ∧ Hid (∀ b off k, WrS w b off k → WrS wr b off k) ∧ Hid (∀ b off k, WrS w2 b off k → WrS wr b off k) ∧ Hid (∀ k, k < w2.heap.size → offP p k → wr.heap[k]? = w2.heap[k]?)) (fun iv _ _ => 5 - (intOf iv).toNat)
 case atStart => exact ⟨0, rfl, by omega, rfl, b2, f2, K2, Lib.hid fun _ _ _ h => h, Lib.hid fun _ _ _ => rfl⟩
 case round =>
  clear b2 f2 K2
  obtain ⟨i, rfl, hi1, hbx, b2, f2, K2, K3, K4⟩ := hrel
  by_cases hi5 : i < 5
  rotate_left
  · obtain rfl : i = 5 := by omega
    go_wp2
    go_end0
    exact ⟨rfl, b2, f2, K2.out, fun k h1 h2 => (K4.out k (by omega) h2).trans ((j2.block k (by omega)).trans (j1.block k h1))⟩
  · obtain ⟨A, n, c, hcell, hwr, hn, hof⟩ := HS.out i hi5
    have HOf := Lib.hid hof
    have HC := Lib.hid hcell
    have HW := Lib.hid hwr
    have hwri : IntKind.i64.wrap ((i : Int) + 1) = ((i + 1 : Nat) : Int) := by rw [IntKind.wrap_i64]; omega
    clear hcell hwr hof
    go_wp2
    go_loopw [4] (fun kv wr => ∃ k : Nat, kv = .int .i64 k ∧ k ≤ n ∧ wr.heap[w1.heap.size]? = w2.heap[w1.heap.size]? ∧ Below lo w wr ∧ From hi w wr ∧ Hid (∀ b off k, WrS w b off k → WrS wr b off k) ∧ Hid (∀ b off k, WrS w2 b off k → WrS wr b off k) ∧ Hid (∀ k, k < w2.heap.size → offP p k → wr.heap[k]? = w2.heap[k]?)) (fun kv _ => n - (intOf kv).toNat)
    case atStart => exact ⟨0, rfl, Nat.zero_le _, hbx, b2, f2, K2, K3, K4⟩
    case round =>
     clear hbx b2 f2 K2 K3 K4
     obtain ⟨k, rfl, hk1, hbx, b2, f2, K2, K3, K4⟩ := hrel
     have g1 := (World.cell?_of_block hbx).trans HC.out
     by_cases hk : k < n
     · obtain ⟨b, off, rfl, hb1, hb2, hW⟩ := (HW.out.keep K3.out) (by omega)
       obtain ⟨⟨u, q1⟩, q2⟩ := hW k hk
       have hwrk : IntKind.i64.wrap ((k : Int) + 1) = ((k + 1 : Nat) : Int) := by rw [IntKind.wrap_i64]; omega
       go_wp2
       go_roundw
       case rel => exact ⟨k + 1, by first | rfl | (congr 1; omega) | go_num, by omega, (Below.heap_setCell _ _ _ _ (by simp; omega)).trans hbx, b2.setCell hb1 _, f2.setCell hb2 _, Lib.hid fun b' off' k' h => (K2.out _ _ _ h).set_ _ _, Lib.hid fun b' off' k' h => (K3.out _ _ _ h).set_ _ _, Lib.hid fun k' h1 h2 => (Below.heap_setCell _ _ _ _ (fun (e : k' = b) => HOf.out k' h2 _ rfl (by omega) e.symm)).trans (K4.out k' h1 h2)⟩
       case measure => first | (simp [intOf]; done) | (simp [intOf]; omega)
     · go_wp2
       go_roundw
       case rel => exact ⟨i + 1, by first | rfl | (congr 1; omega) | go_num, by omega, hbx, b2, f2, K2, K3, K4⟩
       case measure => first | (simp [intOf]; done) | (simp [intOf]; omega)
end Ma
end Go.Proofs.Ytbbnbgllgomolaa
namespace Go.Proofs.Ytbbnbgllgomolaa
open Go.RowKit
namespace Ma
open Dp Dy
theorem range_set {w : World} {g i j : Nat} {p : Pv} (h : w.rangeAt g (j * 17 + 1) (cells16 p)) (v : Value) : (w.setCell ⟨g, i * 17, none⟩ v).rangeAt g (j * 17 + 1) (cells16 p) := fun k u hk => by
 have hl : k < 16 := by
  rcases Nat.lt_or_ge k 16 with h' | h'
  · exact h'
  · rw [List.getElem?_eq_none (by simpa [cells16] using h')] at hk
    cases hk
 exact (World.cell?_setCell_other _ _ _ _ (fun e => by injection e with _ e2 _; omega)).trans (h k u hk)
theorem OwnF.cell0 {w : World} {base g n c : Nat} {fs : List Fv} (h : OwnF w base (.slice (some ⟨g, 0, none⟩) n c) n fs) {i : Nat} (hi : i < fs.length) : w.cell? ⟨g, i * 17, none⟩ = some (.int .i64 fs[i].e) := by
 have hlt : i * 17 + 0 < n * 17 := by have := h.len; omega
 have k := h.own.cellAt (i * 17 + 0) hlt
 rw [flatF_get fs i 0 hi (by decide)] at k
 exact k
set_option maxHeartbeats 25600000 in
set_option maxRecDepth 100000 in
/-- headcountlaw20.spoilAll. -/
theorem spoilAll20_any (w : World) (base : Nat) (A : Option Addr) (n c : Nat) (fs : List Fv) (hO : OwnF w base (.slice A n c) n fs) (lo hi : Nat) (hr : ∀ f ∈ fs, PRows w lo hi f.P) (hblk : ∀ k, (Value.slice A n c).ownBlock = some k → lo ≤ k ∧ k < hi) (hhi : hi ≤ w.heap.size) (hlo : lo ≤ w.heap.size)
  (hs : ∀ j (h : j < fs.length), (∀ x, x < 4 → (fs[j].P.M.get x).n ≤ 1000000) ∧ fs[j].P.n ≤ 1000000) :
  Calls Try.prog 22 #[.slice A n c] w fun e w' => e = .returned (.tuple #[]) ∧ Below lo w w' ∧ From hi w w' ∧ ∀ b off k, WrS w b off k → WrS w' b off k := by
 have HL := Lib.hid hO.len
 have hcap : n ≤ 9223372036854775807 := hO.lfs.big
 rcases Nat.eq_zero_or_pos n with h0 | h0
 · subst h0
   go_enter Try.func22, Try.ntmps22
   go_wp2
   go_loopw [2] (fun iv wr => iv = .int .i64 0 ∧ wr = w) (fun _ _ => 0)
   case atStart => exact ⟨rfl, rfl⟩
   case round =>
    obtain ⟨rfl, rfl⟩ := hrel
    go_wp2
    go_end0
    exact ⟨rfl, Below.refl _ _, fun _ _ _ => rfl, fun _ _ _ h => h⟩
 · obtain ⟨g, hA, hg1, hg2⟩ := hO.addr h0
   subst hA
   obtain ⟨hgl, hgh⟩ := hblk g rfl
   have hfz := hO.own.frozenAt
   have RG := Lib.hid (fun (j : Nat) (h : j < fs.length) => hO.range h)
   have EP := Lib.hid (fun (j : Nat) (h : j < n) => (⟨_, hO.cell0 (by rw [HL.out]; exact h)⟩ : ∃ u, w.cell? ⟨g, j * 17, none⟩ = some u))
   have FZ := Lib.hid hfz
   have HOF := Lib.hid (fun (f : Fv) (hf : f ∈ fs) => (show offP f.P g from ⟨fun x hx a e h1 k => (hO.off f hf).1 x hx a e h1 (by rw [k]; rfl), fun a e h1 k => (hO.off f hf).2 a e h1 (by rw [k]; rfl)⟩))
   clear hfz
   go_enter Try.func22, Try.ntmps22
   go_wp2
   go_loopw [2] (fun iv wr => ∃ i : Nat, iv = .int .i64 i ∧ i ≤ n ∧ Below lo w wr ∧ From hi w wr ∧ Hid (∀ b off k, WrS w b off k → WrS wr b off k) ∧ Hid (∀ j (h : j < fs.length), wr.rangeAt g (j * 17 + 1) (cells16 fs[j].P)) ∧ Hid (∀ j, j < n → ∃ u, wr.cell? ⟨g, j * 17, none⟩ = some u) ∧ Hid (∀ j, wr.frozen? ⟨g, j, none⟩ = false)) (fun iv _ => n - (intOf iv).toNat)
   case atStart => exact ⟨0, rfl, Nat.zero_le _, Below.refl _ _, fun _ _ _ => rfl, Lib.hid fun _ _ _ h => h, RG, EP, FZ⟩
   case round =>
    clear RG EP FZ
    obtain ⟨i, rfl, hi1, hb, hf2, K, RG, EP, FZ⟩ := hrel
    by_cases hi5 : i < n
    rotate_left
    · go_wp2
      go_end0
      exact ⟨rfl, hb, hf2, K.out⟩
    · have hi3 : i < fs.length := by rw [HL.out]; exact hi5
      have lw := hb.size
      obtain ⟨f, hf⟩ : ∃ f, fs[i] = f := ⟨_, rfl⟩
      have hm : f ∈ fs := by rw [← hf]; exact List.getElem_mem hi3
      have rg : wr.rangeAt g (i * 17 + 1) [.bool f.P.M.S.s, .slice f.P.M.S.A f.P.M.S.n f.P.M.S.c, .int .i64 f.P.M.S.e, .bool f.P.M.W.s, .slice f.P.M.W.A f.P.M.W.n f.P.M.W.c, .int .i64 f.P.M.W.e, .bool f.P.M.C.s, .slice f.P.M.C.A f.P.M.C.n f.P.M.C.c, .int .i64 f.P.M.C.e, .bool f.P.M.A.s, .slice f.P.M.A.A f.P.M.A.n f.P.M.A.c, .int .i64 f.P.M.A.e, .bool f.P.h, .int .i64 f.P.mn, .int .i64 f.P.mx, .slice f.P.A f.P.n f.P.c] := by
       have := RG.out i hi3
       rw [hf] at this
       exact this
      have hsz : (∀ x, x < 4 → (f.P.M.get x).n ≤ 1000000) ∧ f.P.n ≤ 1000000 := by rw [← hf]; exact hs i hi3
      have HSZ := Lib.hid hsz
      have hwrj : IntKind.i64.wrap ((i : Int) + 1) = ((i + 1 : Nat) : Int) := by rw [IntKind.wrap_i64]; omega
      clear hsz hf
      go_wp2_with (first
       | (refine wpList_load_mid rfl 31 (.tmp 12) rfl g (i * 17 + 1) (by go_simp) [.bool f.P.M.S.s, .slice f.P.M.S.A f.P.M.S.n f.P.M.S.c, .int .i64 f.P.M.S.e, .bool f.P.M.W.s, .slice f.P.M.W.A f.P.M.W.n f.P.M.W.c, .int .i64 f.P.M.W.e, .bool f.P.M.C.s, .slice f.P.M.C.A f.P.M.C.n f.P.M.C.c, .int .i64 f.P.M.C.e, .bool f.P.M.A.s, .slice f.P.M.A.A f.P.M.A.n f.P.M.A.c, .int .i64 f.P.M.A.e, .bool f.P.h, .int .i64 f.P.mn, .int .i64 f.P.mx, .slice f.P.A f.P.n f.P.c] _ rg Try.underlying31 rfl (by kernel_rfl) ?_))
      refine (spoil20_any wr f.P lo hi (fun x hx => ⟨(WrR.of ((hr f hm).M.get x)).keep K.out, HSZ.out.1 x hx⟩) ((WrR.of (hr f hm).L).keep K.out) HSZ.out.2 (by omega) (by omega)).mono ?_
      rintro e' v1 ⟨rfl, hB, hF, hW, hK4⟩
      have hgb : v1.heap[g]? = wr.heap[g]? := hK4 g (by omega) (HOF.out f hm)
      have s1 := hB.size
      have hb1 := hb.trans hB
      have hf1 : From hi w v1 := fun k h1 h2 => (hF k h1 (by omega)).trans (hf2 k h1 h2)
      obtain ⟨u, q0⟩ := EP.out i hi5
      have q1 := (World.cell?_of_block hgb).trans q0
      have q2 : v1.frozen? ⟨g, i * 17, none⟩ = false := (World.frozen?_of_block hgb).trans (FZ.out _)
      clear rg hb hf2 hB hF
      go_wp2
      go_roundw
      case rel => exact ⟨i + 1, by first | rfl | (congr 1; omega) | go_num, by omega, hb1.setCell hgl _, hf1.setCell hgh _, Lib.hid fun b' off' k' h => (hW _ _ _ (K.out _ _ _ h)).set_ _ _, Lib.hid fun j h => range_set (fun k v hk => (World.cell?_of_block hgb).trans (RG.out j h k v hk)) _, Lib.hid fun j h => by
       by_cases e : j = i
       · subst e
         exact ⟨_, World.cell?_setCell_same' _ _ _ (by rw [q1]; rfl)⟩
       · obtain ⟨u', hu'⟩ := EP.out j h
         exact ⟨u', (World.cell?_setCell_other _ _ _ _ (fun e' => by injection e' with _ e2 _; omega)).trans ((World.cell?_of_block hgb).trans hu')⟩, Lib.hid fun j => by rw [World.frozen?_setCell]; exact (World.frozen?_of_block hgb).trans (FZ.out j)⟩
      case measure => first | (simp [intOf]; done) | (simp [intOf]; omega)
end Ma
end Go.Proofs.Ytbbnbgllgomolaa
namespace Go.Proofs.Ytbbnbgllgomolaa
open Go.RowKit
namespace Ma
open Dp Dy
theorem greatF_not {n : Nat} {fs : List Fv} (h : greatF n fs = false) : n ≤ 1028 ∧ (40 < n → 1024 ≤ n) ∧ ∀ j (h : j < fs.length), greatP fs[j].P = false := by
 unfold greatF at h
 rw [Bool.or_eq_false_iff, Bool.or_eq_false_iff, Bool.and_eq_false_iff] at h
 obtain ⟨⟨h1, h2⟩, h3⟩ := h
 simp only [decide_eq_false_iff_not] at h1 h2
 refine ⟨by omega, fun h => by omega, fun j hj => ?_⟩
 have := List.any_eq_false.1 h3 _ (List.getElem_mem hj)
 cases e : greatP fs[j].P
 · rfl
 · rw [e] at this
   simp at this
theorem greatP_not {p : Pv} (h : greatP p = false) : greatM p.M = false ∧ p.n ≤ 70 := by
 unfold greatP at h
 rw [Bool.or_eq_false_iff] at h
 exact ⟨h.1, by have := h.2; simp at this; omega⟩
theorem small_part {w : World} {lo hi : Nat} {p : Pv} (hR : PRows w lo hi p) (h : greatP p = false) : (∀ x, x < 4 → (p.M.get x).n ≤ 1000000) ∧ p.n ≤ 1000000 := by
 obtain ⟨h1, h2⟩ := greatP_not h
 refine ⟨fun x hx => ?_, by omega⟩
 have k1 := (great_not h1 x hx).1
 have k2 := (hR.M.get x).len
 omega
theorem small_list {w : World} {lo hi n : Nat} {A : Option Addr} {fs : List Fv} (hL : LFs w lo hi A n fs) (h : greatF n fs = false) : ∀ j (h : j < fs.length), (∀ x, x < 4 → (fs[j].P.M.get x).n ≤ 1000000) ∧ fs[j].P.n ≤ 1000000 := fun j hj =>
 small_part (hL.rows j hj) ((greatF_not h).2.2 j hj)
theorem twinP_small {p q : Pv} (h : TwinP p q) (hs : (∀ x, x < 4 → (p.M.get x).n ≤ 1000000) ∧ p.n ≤ 1000000) : (∀ x, x < 4 → (q.M.get x).n ≤ 1000000) ∧ q.n ≤ 1000000 :=
 ⟨fun x hx => by rw [(h.1 x hx).2.1]; exact hs.1 x hx, by rw [h.2.2.2.2.1]; exact hs.2⟩
theorem twinF_small {fs gs : List Fv} (h : TwinF fs gs) (hs : ∀ j (h : j < fs.length), (∀ x, x < 4 → (fs[j].P.M.get x).n ≤ 1000000) ∧ fs[j].P.n ≤ 1000000) : ∀ j (h : j < gs.length), (∀ x, x < 4 → (gs[j].P.M.get x).n ≤ 1000000) ∧ gs[j].P.n ≤ 1000000 := fun j hj =>
 have h1 : j < fs.length := by rw [← h.1]; exact hj
 twinP_small (h.2 j h1 hj).2 (hs j h1)
theorem twin_sameL {a u b : Mv} (h : ∀ x, x < 4 → TwinV (a.get x) (u.get x)) : sameM u b = sameM a b := by
 have k : ∀ x, x < 4 → ∀ d, sameV (u.get x) d = sameV (a.get x) d := fun x hx d => by
  unfold sameV
  rw [(h x hx).1, (h x hx).2.2.1, (h x hx).2.2.2.1]
 have k0 := k 0 (by decide) b.S
 have k1 := k 1 (by decide) b.W
 have k2 := k 2 (by decide) b.C
 have k3 := k 3 (by decide) b.A
 simp only [Mv.get] at k0 k1 k2 k3
 unfold sameM
 rw [k0, k1, k2, k3]
theorem twinP_left {p q r : Pv} (h : TwinP p q) : sameP q r = sameP p r := by
 unfold sameP sameE
 rw [twin_sameL h.1, h.2.1, h.2.2.1, h.2.2.2.1, h.2.2.2.2.2]
theorem twinP_same {p q : Pv} (h : TwinP p q) : sameP q p = true := by
 unfold sameP sameE
 rw [twin_same h.1, h.2.1, h.2.2.1, h.2.2.2.1, h.2.2.2.2.2, Pa.Sm_refl]
 simp
theorem sameP_refl (p : Pv) : sameP p p = true := by
 unfold sameP sameE
 rw [sameM_refl, Pa.Sm_refl]
 simp
theorem twinP_trans {p q r : Pv} (h : TwinP p q) (k : TwinP q r) : TwinP p r := by
 obtain ⟨h0, h1, h2, h3, h4, h5⟩ := h
 obtain ⟨k0, k1, k2, k3, k4, k5⟩ := k
 exact ⟨fun x hx => by
  obtain ⟨a1, a2, a3, a4, _⟩ := h0 x hx
  obtain ⟨b1, b2, b3, b4, b5⟩ := k0 x hx
  exact ⟨b1.trans a1, b2.trans a2, b3.trans a3, b4.trans a4, b5⟩, k1.trans h1, k2.trans h2, k3.trans h3, k4.trans h4, k5.trans h5⟩
theorem twinF_trans {fs gs hs : List Fv} (h : TwinF fs gs) (k : TwinF gs hs) : TwinF fs hs := ⟨k.1.trans h.1, fun j h1 h2 => by
 have h3 : j < gs.length := by rw [h.1]; exact h1
 exact ⟨(k.2 j h3 h2).1.trans (h.2 j h1 h3).1, twinP_trans (h.2 j h1 h3).2 (k.2 j h3 h2).2⟩⟩
theorem twinF_same {fs gs : List Fv} (h : TwinF fs gs) : sameF gs fs = true := sameF_yes h.1 fun j h1 h2 => ⟨(h.2 j h2 h1).1, twinP_same (h.2 j h2 h1).2⟩
theorem sameF_at : ∀ {fs gs hs : List Fv}, TwinF fs gs → sameF gs hs = sameF fs hs
 | [], [], _, _ => rfl
 | [], _ :: _, _, h => absurd h.1 (by simp)
 | _ :: _, [], _, h => absurd h.1 (by simp)
 | f :: fs, g :: gs, [], _ => by simp [sameF]
 | f :: fs, g :: gs, x :: hs, h => by
  have ht : TwinF fs gs := ⟨by have := h.1; simpa using this, fun j h1 h2 => by
   have := h.2 (j + 1) (by simpa using h1) (by simpa using h2)
   simpa using this⟩
  have ih := sameF_at (hs := hs) ht
  have h0 := h.2 0 (by simp) (by simp)
  simp only [List.getElem_cons_zero] at h0
  have e : sameF (g :: gs) (x :: hs) = (decide (g.e = x.e) && sameP g.P x.P && sameF gs hs) := by
   simp only [sameF, List.length_cons, List.zip_cons_cons, List.all_cons, Nat.add_right_cancel_iff]
   cases decide (gs.length = hs.length) <;> simp
  have e' : sameF (f :: fs) (x :: hs) = (decide (f.e = x.e) && sameP f.P x.P && sameF fs hs) := by
   simp only [sameF, List.length_cons, List.zip_cons_cons, List.all_cons, Nat.add_right_cancel_iff]
   cases decide (fs.length = hs.length) <;> simp
  rw [e, e', ih, h0.1, twinP_left h0.2]
theorem sameF_refl (fs : List Fv) : sameF fs fs = true := sameF_yes rfl fun _j _ _ => ⟨rfl, sameP_refl _⟩
theorem ints_far {w w' : World} {lo hi g n : Nat} {A : Option Addr} {k : IntKind} {xs : List Int} (h : Ints w lo hi k A n xs) (ho : ∀ a, A = some a → 0 < n → a.block ≠ g) (hf : ∀ j, j ≠ g → w'.heap[j]? = w.heap[j]?) : Ints w' lo hi k A n xs := by
 refine ⟨h.len, h.wf, h.big, fun h0 => ?_⟩
 obtain ⟨b, off, e, h1, h2, hc⟩ := h.row h0
 have hb := hf b (ho _ e h0)
 exact ⟨b, off, e, h1, h2, fun j hj => ⟨(World.cell?_of_block hb).trans (hc j hj).1, (World.frozen?_of_block hb).trans (hc j hj).2⟩⟩
theorem prows_far {w w' : World} {lo hi g : Nat} {p : Pv} (h : PRows w lo hi p) (ho : offP p g) (hf : ∀ j, j ≠ g → w'.heap[j]? = w.heap[j]?) : PRows w' lo hi p :=
 ⟨⟨ints_far h.M.S (ho.1 0 (by decide)) hf, ints_far h.M.W (ho.1 1 (by decide)) hf, ints_far h.M.C (ho.1 2 (by decide)) hf, ints_far h.M.A (ho.1 3 (by decide)) hf⟩, ints_far h.L ho.2 hf⟩
theorem ints_offG {w : World} {lo hi g n : Nat} {A : Option Addr} {k : IntKind} {xs : List Int} (h : Ints w lo hi k A n xs) (hg : g < lo ∨ hi ≤ g) : ∀ a, A = some a → 0 < n → a.block ≠ g := fun a e h0 hk => by
 obtain ⟨b, off, e', h1, h2, _⟩ := h.row h0
 rw [e'] at e
 injection e with e
 subst e
 simp only at hk
 omega
theorem offP_of {w : World} {lo hi g : Nat} {p : Pv} (h : PRows w lo hi p) (hg : g < lo ∨ hi ≤ g) : offP p g := ⟨fun x _ => ints_offG (h.M.get x) hg, ints_offG h.L hg⟩
theorem grown_far {w w' : World} {g : Nat} (hb : ∀ w0 B, Below B w0 w → B ≤ g → Below B w0 w') (hf : ∀ j, j ≠ g → w'.heap[j]? = w.heap[j]?) (hs : w.heap.size ≤ w'.heap.size) : w.grownBy w' (some g) :=
 have k := hb w 0 (Below.refl 0 w) (Nat.zero_le _)
 ⟨k.os, k.tape, k.output, hs, fun j _ hj => hf j fun e => hj (by rw [e])⟩
theorem OwnF.far {w w' : World} {base g n : Nat} {v : Value} {fs : List Fv} (h : OwnF w base v n fs) (hb : ∀ w0 B, Below B w0 w → B ≤ g → Below B w0 w') (hf : ∀ j, j ≠ g → w'.heap[j]? = w.heap[j]?) (hs : w.heap.size ≤ w'.heap.size)
  (hv : v.ownBlock ≠ some g) (ho : ∀ f ∈ fs, offP f.P g) : OwnF w' base v n fs :=
 ⟨h.own.kept (grown_far hb hf hs) (.inr hv), h.len, fun f hf' => (prows_far (h.rows f hf') (ho f hf') hf).more (Nat.le_refl _) hs, h.off⟩
theorem OwnF.base {w : World} {base b' n : Nat} {v : Value} {fs : List Fv} (h : OwnF w base v n fs) (hb : b' ≤ base) : OwnF w b' v n fs := ⟨⟨h.own.1, h.own.2.imp id fun ⟨g, cap, cur, e, h1, h2⟩ => ⟨g, cap, cur, e, Nat.le_trans hb h1, h2⟩⟩, h.len, h.rows, h.off⟩
theorem run_load_op {P : Program} {op : Oper} {e : Operand → Value} {w : World} (ty : TypeId) (x : Operand) (ho : op.op = .load ty x) (b o : Nat) (hx : e x = .pointer (some ⟨b, o, none⟩)) (cs : List Value) (d : TypeDesc) (hc : w.rangeAt b o cs)
  (hu : P.underlying ty = some d) (hd : d.isRow = true) (hi : (P.info? ty).map (·.size) = some cs.length) : (execOp e op).run P w = .ok (.value (.agg cs.toArray)) w := by
 unfold execOp
 simp only [ho, hx, Instr.loadAt, Instr.sureAddr, Sem.run_bind, Sem.run_pure, Result.andThen_ok, run_loadVar_mid w b o ty cs d hc hu hd hi]
/-- A whole load, guarded: one step of a walk. -/
theorem wpList_load_midG {P : Program} {ops : Array Oper} {rest : List Oper} {op : Oper} {a : Act} {w : World} {Q : Exit → Act → World → Prop} (hw : Region.wanted op (yielded ops a.tmps) = true) (ty : TypeId) (x : Operand) (ho : op.op = .load ty x)
  (b o : Nat) (hx : a.eval x = .pointer (some ⟨b, o, none⟩)) (cs : List Value) (d : TypeDesc) (hc : w.rangeAt b o cs)
  (hu : P.underlying ty = some d) (hd : d.isRow = true) (hi : (P.info? ty).map (·.size) = some cs.length)
  (h : wpList P ops Q rest (a.put op.dst (.agg cs.toArray)) w) : wpList P ops Q (op :: rest) a w := by
 unfold wpList
 rw [if_pos hw]
 exact .inl (wp_load_mid ty x ho b o hx cs d hc hu hd hi h)
theorem PBox.range {w : World} {g : Nat} {p : Pv} (h : PBox w g p) : w.rangeAt g 0 (cells16 p) := fun j v hj => by
 rw [Nat.zero_add]
 unfold PBox at h
 simp only [World.cell?, h]
 simpa [cells16] using hj
theorem PBox.there {w : World} {g : Nat} {p : Pv} (h : PBox w g p) : w.there g 0 16 := fun j hj =>
 ⟨by rw [h.range j _ (List.getElem?_eq_getElem (by simpa [cells16] using hj))]; rfl, (PBox.cell h).2 _⟩
theorem part_into {w : World} {g : Nat} {p0 : Pv} (h : PBox w g p0) (p : Pv) : ∃ U, w.setCells g 0 (cells16 p) = U ∧ PBox U g p ∧ (∀ w0 B, Below B w0 w → B ≤ g → Below B w0 U) ∧ (∀ j, j ≠ g → U.heap[j]? = w.heap[j]?) ∧ U.heap.size ≤ w.heap.size ∧ w.heap.size ≤ U.heap.size := part_to h p
theorem copied {w w' : World} {g lo hi : Nat} {fs : List Fv} (h : ∀ f ∈ fs, PRows w lo hi f.P) (hg : g < lo ∨ hi ≤ g) (hf : ∀ j, j ≠ g → w'.heap[j]? = w.heap[j]?) : ∀ f ∈ fs, PRows w' lo hi f.P := fun f hm => prows_far (h f hm) (offP_of (h f hm) hg) hf
end Ma
end Go.Proofs.Ytbbnbgllgomolaa