/- Frozen parts that may be: past.Check and headcountref20.Check: walks (printed by a program of mine). -/
/- Where an epoch's part stands: past.ahead, past.place: walks (printed by a program of mine). -/
/- Freezing: past.Freeze and its reference: walks (printed by a program of mine). -/
import Derived.Test.YtbbnbgllgomolaaBy13
import Derived.Test.YtbbnbgllgomolaaBy12
import Derived.Test.YtbbnbgllgomolaaBy11
namespace Go.Proofs.Ytbbnbgllgomolaa
open Go.RowKit
namespace Ma
open Dp Dy
theorem FBox.part {w : World} {g : Nat} {f : Fv} (h : FBox w g f) : w.rangeAt g 1 [.bool f.P.M.S.s, .slice f.P.M.S.A f.P.M.S.n f.P.M.S.c, .int .i64 f.P.M.S.e, .bool f.P.M.W.s, .slice f.P.M.W.A f.P.M.W.n f.P.M.W.c, .int .i64 f.P.M.W.e, .bool f.P.M.C.s, .slice f.P.M.C.A f.P.M.C.n f.P.M.C.c, .int .i64 f.P.M.C.e, .bool f.P.M.A.s, .slice f.P.M.A.A f.P.M.A.n f.P.M.A.c, .int .i64 f.P.M.A.e, .bool f.P.h, .int .i64 f.P.mn, .int .i64 f.P.mx, .slice f.P.A f.P.n f.P.c] := fun j v hj => by
 have k := h.range (j + 1) v hj
 rw [Nat.zero_add, Nat.add_comm] at k
 exact k
theorem checkF_no {n : Nat} {fs : List Fv} (h : ¬ 1024 < n) (h2 : mayF (-1) fs = false) : checkF n fs = 8 := by
 unfold checkF
 rw [if_neg h, h2]
 rfl
theorem checkF_ok {n : Nat} {fs : List Fv} (h : ¬ 1024 < n) (h2 : mayF (-1) fs = true) : checkF n fs = 0 := by
 unfold checkF
 rw [if_neg h, h2]
 rfl
set_option maxHeartbeats 12800000 in
set_option maxRecDepth 100000 in
/-- past.Check. -/
theorem CheckF_any (w : World) (A : Option Addr) (n c : Nat) (fs : List Fv) (hL : LFs w 0 w.heap.size A n fs) (k : Int) (hk : checkF n fs = k) :
  Calls Try.prog 30 #[.slice A n c] w fun e w' => e = .returned (.int .i64 k) ∧ Below w.heap.size w w' := by
 have HL := Lib.hid hL.len
 have HK := Lib.hid hk
 have hbig := hL.big
 clear hk
 go_enter Try.func30, Try.ntmps30
 by_cases c1 : 1024 < n
 · have hk' : k = 4 := by rw [← HK.out, checkF, if_pos c1]
   subst hk'
   clear HK
   go_wp2
   go_ret
   exact ⟨rfl, Below.refl _ _⟩
 · go_wp2
   go_loopw [3, 11] (fun lv iv wr => ∃ (i : Nat) (last : Int), iv = .int .i64 i ∧ lv = .int .i64 last ∧ i ≤ n ∧ Below w.heap.size w wr ∧ Hid (mayF (-1) fs = mayF last (fs.drop i))) (fun _ iv _ => n - (intOf iv).toNat)
   case atStart => exact ⟨0, -1, rfl, rfl, Nat.zero_le _, Below.refl _ _, Lib.hid rfl⟩
   case round =>
    obtain ⟨i, last, rfl, rfl, hi1, hb, hmy⟩ := hrel
    by_cases hi : i < n
    rotate_left
    · have hk' : k = 0 := by
        rw [← HK.out]
        exact checkF_ok c1 (by rw [hmy.out]; exact mayF_end (by have := HL.out; omega) _)
      subst hk'
      go_wp2
      go_ret
      exact ⟨rfl, hb⟩
    · have hi2 : i < fs.length := by rw [HL.out]; exact hi
      obtain ⟨b, off, hA, hb1, hb2, hc⟩ := (hL.below hb (Nat.le_refl _)).row (by omega)
      have hci := Lib.hid (hc i hi2)
      have hri := (hL.below hb (Nat.le_refl _)).rows i hi2
      obtain ⟨f, hf⟩ : ∃ f, fs[i] = f := ⟨_, rfl⟩
      have hmy2 : Hid (mayF (-1) fs = (decide (last < f.e ∧ f.e ≤ 65535) && (mayP f.P && mayF f.e (fs.drop (i + 1))))) := Lib.hid (by rw [hmy.out, mayF_drop hi2, hf])
      rw [hf] at hci hri
      have hwrj : IntKind.i64.wrap ((i : Int) + 1) = ((i + 1 : Nat) : Int) := by rw [IntKind.wrap_i64]; omega
      clear hc hf hmy
      subst hA
      have lw := hb.size
      obtain ⟨u1, hu1, f1, j1, s1⟩ := alloc_f wr f
      have rg := hci.out.range
      go_upto_region 7 with (first
       | (refine wpList_load_mid rfl 68 (.tmp 13) rfl b (off + i * 17) rfl [.int .i64 f.e, .bool f.P.M.S.s, .slice f.P.M.S.A f.P.M.S.n f.P.M.S.c, .int .i64 f.P.M.S.e, .bool f.P.M.W.s, .slice f.P.M.W.A f.P.M.W.n f.P.M.W.c, .int .i64 f.P.M.W.e, .bool f.P.M.C.s, .slice f.P.M.C.A f.P.M.C.n f.P.M.C.c, .int .i64 f.P.M.C.e, .bool f.P.M.A.s, .slice f.P.M.A.A f.P.M.A.n f.P.M.A.c, .int .i64 f.P.M.A.e, .bool f.P.h, .int .i64 f.P.mn, .int .i64 f.P.mx, .slice f.P.A f.P.n f.P.c] _ rg Try.underlying68 rfl (by kernel_rfl) ?_)
       | (refine wpList_store_new rfl 68 (.tmp 5) (.tmp 14) rfl _ #[.int .i64 f.e, .bool f.P.M.S.s, .slice f.P.M.S.A f.P.M.S.n f.P.M.S.c, .int .i64 f.P.M.S.e, .bool f.P.M.W.s, .slice f.P.M.W.A f.P.M.W.n f.P.M.W.c, .int .i64 f.P.M.W.e, .bool f.P.M.C.s, .slice f.P.M.C.A f.P.M.C.n f.P.M.C.c, .int .i64 f.P.M.C.e, .bool f.P.M.A.s, .slice f.P.M.A.A f.P.M.A.n f.P.M.A.c, .int .i64 f.P.M.A.e, .bool f.P.h, .int .i64 f.P.mn, .int .i64 f.P.mx, .slice f.P.A f.P.n f.P.c] rfl rfl (by kernel_rfl) rfl (all_oneCell_toArray (cells17_one f)) ?_))
      try rw [hu1]
      try clear hu1
      clear rg
      have hb3 := hb.trans (j1.mono lw)
      obtain ⟨⟨k0, k1, k2, k3, k4, k5, k6, k7, k8, k9, k10, k11, k12, k13, k14, k15, k16⟩, kf⟩ := FBox.cell f1
      by_cases a1 : f.e ≤ last
      · have hk' : k = 8 := by
          rw [← HK.out]
          exact checkF_no c1 (by rw [hmy2.out, decide_eq_false (by omega)]; rfl)
        subst hk'
        clear HK hmy2
        go_wp2
        go_ret
        exact ⟨rfl, hb3⟩
      · have d1 : decide (f.e ≤ last) = false := decide_eq_false a1
        by_cases a2 : (65535 : Int) < f.e
        · have hk' : k = 8 := by
            rw [← HK.out]
            exact checkF_no c1 (by rw [hmy2.out, decide_eq_false (by omega)]; rfl)
          subst hk'
          clear HK hmy2
          go_wp2
          go_ret
          exact ⟨rfl, hb3⟩
        · have d2 : decide ((65535 : Int) < f.e) = false := decide_eq_false a2
          obtain ⟨m, hm⟩ : ∃ m, mayP f.P = m := ⟨_, rfl⟩
          have HM := Lib.hid hm
          clear hm
          go_wp2_with fail
          refine (CheckPart_any u1 f.P ((hri.more (Nat.le_refl _) lw).on j1) m HM.out).mono ?_
          rintro e' u2 ⟨rfl, j2⟩
          have hb4 := hb3.trans (j2.mono (by omega))
          have f2 : FBox u2 wr.heap.size f := (j2.block _ s1).trans f1
          clear k0 k1 k2 k3 k4 k5 k6 k7 k8 k9 k10 k11 k12 k13 k14 k15 k16 kf
          have k0 := (FBox.cell f2).1.1
          have kf := (FBox.cell f2).2
          cases m
          · have hk' : k = 8 := by
              rw [← HK.out]
              exact checkF_no c1 (by rw [hmy2.out, HM.out]; simp)
            subst hk'
            clear HK hmy2 HM
            go_wp2
            go_ret
            exact ⟨rfl, hb4⟩
          · have hmy3 : Hid (mayF (-1) fs = mayF f.e (fs.drop (i + 1))) := Lib.hid (by rw [hmy2.out, HM.out, decide_eq_true (by omega)]; simp)
            clear hmy2 HM
            go_wp2
            go_roundw
            case rel => exact ⟨i + 1, f.e, by first | rfl | (congr 1; omega) | go_num, rfl, by omega, hb4, hmy3⟩
            case measure => first | (simp [intOf]; done) | (simp [intOf]; omega)
set_option maxHeartbeats 25600000 in
set_option maxRecDepth 100000 in
/-- headcountref20.Check. -/
theorem RCheckF_any (w : World) (A : Option Addr) (n c : Nat) (fs : List Fv) (hL : LFs w 0 w.heap.size A n fs) (k : Int) (hk : checkF n fs = k) :
  Calls Try.prog 31 #[.slice A n c] w fun e w' => e = .returned (.int .i64 k) ∧ Below w.heap.size w w' := by
 have HL := Lib.hid hL.len
 have HK := Lib.hid hk
 have hbig := hL.big
 clear hk
 go_enter Try.func31, Try.ntmps31
 by_cases c1 : 1024 < n
 · have hk' : k = 4 := by rw [← HK.out, checkF, if_pos c1]
   subst hk'
   clear HK
   go_wp2
   go_ret
   exact ⟨rfl, Below.refl _ _⟩
 · go_wp2
   go_loopw [3] (fun iv wr => ∃ (i : Nat) (last : Int), iv = .int .i64 i ∧ i ≤ n ∧ Below w.heap.size w wr ∧ Hid (mayF (-1) fs = mayF last (fs.drop i)) ∧ Hid (∀ h : i - 1 < fs.length, 0 < i → fs[i - 1].e = last) ∧ Hid ((i = 0 → last = -1) ∧ (0 < i → 0 ≤ last))) (fun iv _ => n - (intOf iv).toNat)
   case atStart => exact ⟨0, -1, rfl, Nat.zero_le _, Below.refl _ _, Lib.hid rfl, Lib.hid fun _ h => absurd h (Nat.lt_irrefl 0), Lib.hid ⟨fun _ => rfl, fun h => absurd h (Nat.lt_irrefl 0)⟩⟩
   case round =>
    obtain ⟨i, last, rfl, hi1, hb, hmy, hla, hl0⟩ := hrel
    by_cases hi : i < n
    rotate_left
    · have hk' : k = 0 := by
        rw [← HK.out]
        exact checkF_ok c1 (by rw [hmy.out]; exact mayF_end (by have := HL.out; omega) _)
      subst hk'
      go_wp2
      go_ret
      exact ⟨rfl, hb⟩
    · have hi2 : i < fs.length := by rw [HL.out]; exact hi
      obtain ⟨b, off, hA, hb1, hb2, hc⟩ := (hL.below hb (Nat.le_refl _)).row (by omega)
      have hci := Lib.hid (hc i hi2)
      have hcp := Lib.hid (fun (h : i - 1 < fs.length) => hc (i - 1) h)
      have hri := (hL.below hb (Nat.le_refl _)).rows i hi2
      obtain ⟨f, hf⟩ : ∃ f, fs[i] = f := ⟨_, rfl⟩
      have hmy2 : Hid (mayF (-1) fs = (decide (last < f.e ∧ f.e ≤ 65535) && (mayP f.P && mayF f.e (fs.drop (i + 1))))) := Lib.hid (by rw [hmy.out, mayF_drop hi2, hf])
      have HF := Lib.hid hf
      rw [hf] at hci hri
      have hwrj : IntKind.i64.wrap ((i : Int) + 1) = ((i + 1 : Nat) : Int) := by rw [IntKind.wrap_i64]; omega
      clear hc hf hmy
      subst hA
      have lw := hb.size
      have hbw : b < wr.heap.size := by omega
      obtain ⟨m, hm⟩ : ∃ m, mayP f.P = m := ⟨_, rfl⟩
      have HM := Lib.hid hm
      clear hm
      have hri := hri.more (Nat.le_refl _) lw
      by_cases a1 : f.e < 0
      · skip
        have hk' : k = 8 := by
         rw [← HK.out]
         exact checkF_no c1 (by rw [hmy2.out, decide_eq_false (by have := hl0.out; omega)]; rfl)
        subst hk'
        clear HK hmy2 HM
        go_wp2_with fail
        try clear hw
        refine region_E (Keeps wr) [] (m := 41) (L := #[zF,zF,zF,zF,zF,zF,zF,zF,zF,zF,zF,zF,zF,zF,zF,zF,zF,zF,zF,zF,zF,zF,zF,zF,zF,zF,zF,zF,zF,zF,zF,zF,zF,zF,zF,zF,zF,zF,zF,zF,zF]) (by kernel_rfl) (by rfl) (by rfl) ?_
        have j2 : Below wr.heap.size wr wr.drew := (Below.refl _ _).drew
        generalize wr.drew = v1 at *
        refine zE 0 #[zT,zF,zF,zF,zF,zF,zF,zF,zF,zF,zF,zF,zF,zF,zF,zF,zF,zF,zF,zF,zF,zF,zF,zF,zF,zF,zF,zF,zF,zF,zF,zF,zF,zF,zF,zF,zF,zF,zF,zF,zF] ?_ rfl ?hy1 ?rest1
        case hy1 => intro w; go_simp; (try with_reducible rfl)
        try simp only [Act.put, zp]
        refine zE 1 #[zT,zT,zF,zF,zF,zF,zF,zF,zF,zF,zF,zF,zF,zF,zF,zF,zF,zF,zF,zF,zF,zF,zF,zF,zF,zF,zF,zF,zF,zF,zF,zF,zF,zF,zF,zF,zF,zF,zF,zF,zF] ?_ rfl ?hy2 ?rest2
        case hy2 => intro w; go_simp; (try with_reducible rfl)
        try simp only [Act.put, zp]
        refine zE 2 #[zT,zT,zT,zF,zF,zF,zF,zF,zF,zF,zF,zF,zF,zF,zF,zF,zF,zF,zF,zF,zF,zF,zF,zF,zF,zF,zF,zF,zF,zF,zF,zF,zF,zF,zF,zF,zF,zF,zF,zF,zF] ?_ rfl ?hy3 ?rest3
        case hy3 => intro w; go_simp; (try with_reducible rfl)
        try simp only [Act.put, zp]
        refine zE 3 #[zT,zT,zT,zT,zF,zF,zF,zF,zF,zF,zF,zF,zF,zF,zF,zF,zF,zF,zF,zF,zF,zF,zF,zF,zF,zF,zF,zF,zF,zF,zF,zF,zF,zF,zF,zF,zF,zF,zF,zF,zF] ?_ rfl ?hy4 ?rest4
        case hy4 => intro w; go_simp; (try with_reducible rfl)
        try simp only [Act.put, zp]
        have kpy3 : Keeps wr v1 := fun p hp => Below.block j2 p hp
        refine readE (i := 4) (L := #[zT,zT,zT,zT,zT,zF,zF,zF,zF,zF,zF,zF,zF,zF,zF,zF,zF,zF,zF,zF,zF,zF,zF,zF,zF,zF,zF,zF,zF,zF,zF,zF,zF,zF,zF,zF,zF,zF,zF,zF,zF]) (v := .int .i64 f.e) rfl (by rfl) (by kernel_rfl) (by kernel_rfl) (by kernel_rfl) (fun _ _ _ h => h) (by assumption) (by rfl) ?y3 ?z4
        case y3 =>
         intro w' h1
         have k_ := (hci.out.blk (h1 _ hbw)).1
         try simp only [Nat.zero_mul, Nat.add_zero] at k_
         go_simp
        try simp only [Act.put, zp]
        refine zE 5 #[zT,zT,zT,zT,zT,zT,zF,zF,zF,zF,zF,zF,zF,zF,zF,zF,zF,zF,zF,zF,zF,zF,zF,zF,zF,zF,zF,zF,zF,zF,zF,zF,zF,zF,zF,zF,zF,zF,zF,zF,zF] ?_ rfl ?hy6 ?rest6
        case hy6 => intro w; go_simp; (try with_reducible rfl)
        try simp only [Act.put, zp]
        refine zE 6 #[zT,zT,zT,zT,zT,zT,zT,zF,zF,zF,zF,zF,zF,zF,zF,zF,zF,zF,zF,zF,zF,zF,zF,zF,zF,zF,zF,zF,zF,zF,zF,zF,zF,zF,zF,zF,zF,zF,zF,zF,zF] ?_ rfl ?hy7 ?rest7
        case hy7 => intro w; go_simp; (try with_reducible rfl)
        try simp only [Act.put, zp]
        refine skipE (i := 7) (L := #[zT,zT,zT,zT,zT,zT,zT,zT,zF,zF,zF,zF,zF,zF,zF,zF,zF,zF,zF,zF,zF,zF,zF,zF,zF,zF,zF,zF,zF,zF,zF,zF,zF,zF,zF,zF,zF,zF,zF,zF,zF]) rfl (by rfl) (by kernel_rfl) (by kernel_rfl) (by kernel_rfl) (fun _ _ _ h => h) (by rfl) ?_
        try simp only [Act.put, zp]
        refine skipE (i := 8) (L := #[zT,zT,zT,zT,zT,zT,zT,zT,zT,zF,zF,zF,zF,zF,zF,zF,zF,zF,zF,zF,zF,zF,zF,zF,zF,zF,zF,zF,zF,zF,zF,zF,zF,zF,zF,zF,zF,zF,zF,zF,zF]) rfl (by rfl) (by kernel_rfl) (by kernel_rfl) (by kernel_rfl) (fun _ _ _ h => h) (by rfl) ?_
        try simp only [Act.put, zp]
        refine skipE (i := 9) (L := #[zT,zT,zT,zT,zT,zT,zT,zT,zT,zT,zF,zF,zF,zF,zF,zF,zF,zF,zF,zF,zF,zF,zF,zF,zF,zF,zF,zF,zF,zF,zF,zF,zF,zF,zF,zF,zF,zF,zF,zF,zF]) rfl (by rfl) (by kernel_rfl) (by kernel_rfl) (by kernel_rfl) (fun _ _ _ h => h) (by rfl) ?_
        try simp only [Act.put, zp]
        refine skipE (i := 10) (L := #[zT,zT,zT,zT,zT,zT,zT,zT,zT,zT,zT,zF,zF,zF,zF,zF,zF,zF,zF,zF,zF,zF,zF,zF,zF,zF,zF,zF,zF,zF,zF,zF,zF,zF,zF,zF,zF,zF,zF,zF,zF]) rfl (by rfl) (by kernel_rfl) (by kernel_rfl) (by kernel_rfl) (fun _ _ _ h => h) (by rfl) ?_
        try simp only [Act.put, zp]
        refine skipE (i := 11) (L := #[zT,zT,zT,zT,zT,zT,zT,zT,zT,zT,zT,zT,zF,zF,zF,zF,zF,zF,zF,zF,zF,zF,zF,zF,zF,zF,zF,zF,zF,zF,zF,zF,zF,zF,zF,zF,zF,zF,zF,zF,zF]) rfl (by rfl) (by kernel_rfl) (by kernel_rfl) (by kernel_rfl) (fun _ _ _ h => h) (by rfl) ?_
        try simp only [Act.put, zp]
        refine skipE (i := 12) (L := #[zT,zT,zT,zT,zT,zT,zT,zT,zT,zT,zT,zT,zT,zF,zF,zF,zF,zF,zF,zF,zF,zF,zF,zF,zF,zF,zF,zF,zF,zF,zF,zF,zF,zF,zF,zF,zF,zF,zF,zF,zF]) rfl (by rfl) (by kernel_rfl) (by kernel_rfl) (by kernel_rfl) (fun _ _ _ h => h) (by rfl) ?_
        try simp only [Act.put, zp]
        refine zE 13 #[zT,zT,zT,zT,zT,zT,zT,zT,zT,zT,zT,zT,zT,zT,zF,zF,zF,zF,zF,zF,zF,zF,zF,zF,zF,zF,zF,zF,zF,zF,zF,zF,zF,zF,zF,zF,zF,zF,zF,zF,zF] ?_ rfl ?hy8 ?rest8
        case hy8 => intro w; go_simp; (try with_reducible rfl)
        try simp only [Act.put, zp]
        refine zE 14 #[zT,zT,zT,zT,zT,zT,zT,zT,zT,zT,zT,zT,zT,zT,zT,zF,zF,zF,zF,zF,zF,zF,zF,zF,zF,zF,zF,zF,zF,zF,zF,zF,zF,zF,zF,zF,zF,zF,zF,zF,zF] ?_ rfl ?hy9 ?rest9
        case hy9 => intro w; go_simp; (try with_reducible rfl)
        try simp only [Act.put, zp]
        refine skipE (i := 15) (L := #[zT,zT,zT,zT,zT,zT,zT,zT,zT,zT,zT,zT,zT,zT,zT,zT,zF,zF,zF,zF,zF,zF,zF,zF,zF,zF,zF,zF,zF,zF,zF,zF,zF,zF,zF,zF,zF,zF,zF,zF,zF]) rfl (by rfl) (by kernel_rfl) (by kernel_rfl) (by kernel_rfl) (fun _ _ _ h => h) (by rfl) ?_
        try simp only [Act.put, zp]
        refine skipE (i := 16) (L := #[zT,zT,zT,zT,zT,zT,zT,zT,zT,zT,zT,zT,zT,zT,zT,zT,zT,zF,zF,zF,zF,zF,zF,zF,zF,zF,zF,zF,zF,zF,zF,zF,zF,zF,zF,zF,zF,zF,zF,zF,zF]) rfl (by rfl) (by kernel_rfl) (by kernel_rfl) (by kernel_rfl) (fun _ _ _ h => h) (by rfl) ?_
        try simp only [Act.put, zp]
        refine skipE (i := 17) (L := #[zT,zT,zT,zT,zT,zT,zT,zT,zT,zT,zT,zT,zT,zT,zT,zT,zT,zT,zF,zF,zF,zF,zF,zF,zF,zF,zF,zF,zF,zF,zF,zF,zF,zF,zF,zF,zF,zF,zF,zF,zF]) rfl (by rfl) (by kernel_rfl) (by kernel_rfl) (by kernel_rfl) (fun _ _ _ h => h) (by rfl) ?_
        try simp only [Act.put, zp]
        refine skipE (i := 18) (L := #[zT,zT,zT,zT,zT,zT,zT,zT,zT,zT,zT,zT,zT,zT,zT,zT,zT,zT,zT,zF,zF,zF,zF,zF,zF,zF,zF,zF,zF,zF,zF,zF,zF,zF,zF,zF,zF,zF,zF,zF,zF]) rfl (by rfl) (by kernel_rfl) (by kernel_rfl) (by kernel_rfl) (fun _ _ _ h => h) (by rfl) ?_
        try simp only [Act.put, zp]
        refine skipE (i := 19) (L := #[zT,zT,zT,zT,zT,zT,zT,zT,zT,zT,zT,zT,zT,zT,zT,zT,zT,zT,zT,zT,zF,zF,zF,zF,zF,zF,zF,zF,zF,zF,zF,zF,zF,zF,zF,zF,zF,zF,zF,zF,zF]) rfl (by rfl) (by kernel_rfl) (by kernel_rfl) (by kernel_rfl) (fun _ _ _ h => h) (by rfl) ?_
        try simp only [Act.put, zp]
        refine skipE (i := 20) (L := #[zT,zT,zT,zT,zT,zT,zT,zT,zT,zT,zT,zT,zT,zT,zT,zT,zT,zT,zT,zT,zT,zF,zF,zF,zF,zF,zF,zF,zF,zF,zF,zF,zF,zF,zF,zF,zF,zF,zF,zF,zF]) rfl (by rfl) (by kernel_rfl) (by kernel_rfl) (by kernel_rfl) (fun _ _ _ h => h) (by rfl) ?_
        try simp only [Act.put, zp]
        refine skipE (i := 21) (L := #[zT,zT,zT,zT,zT,zT,zT,zT,zT,zT,zT,zT,zT,zT,zT,zT,zT,zT,zT,zT,zT,zT,zF,zF,zF,zF,zF,zF,zF,zF,zF,zF,zF,zF,zF,zF,zF,zF,zF,zF,zF]) rfl (by rfl) (by kernel_rfl) (by kernel_rfl) (by kernel_rfl) (fun _ _ _ h => h) (by rfl) ?_
        try simp only [Act.put, zp]
        refine zE 22 #[zT,zT,zT,zT,zT,zT,zT,zT,zT,zT,zT,zT,zT,zT,zT,zT,zT,zT,zT,zT,zT,zT,zT,zF,zF,zF,zF,zF,zF,zF,zF,zF,zF,zF,zF,zF,zF,zF,zF,zF,zF] ?_ rfl ?hy10 ?rest10
        case hy10 => intro w; go_simp; (try with_reducible rfl)
        try simp only [Act.put, zp]
        refine zE 23 #[zT,zT,zT,zT,zT,zT,zT,zT,zT,zT,zT,zT,zT,zT,zT,zT,zT,zT,zT,zT,zT,zT,zT,zT,zF,zF,zF,zF,zF,zF,zF,zF,zF,zF,zF,zF,zF,zF,zF,zF,zF] ?_ rfl ?hy11 ?rest11
        case hy11 => intro w; go_simp; (try with_reducible rfl)
        try simp only [Act.put, zp]
        refine skipE (i := 24) (L := #[zT,zT,zT,zT,zT,zT,zT,zT,zT,zT,zT,zT,zT,zT,zT,zT,zT,zT,zT,zT,zT,zT,zT,zT,zT,zF,zF,zF,zF,zF,zF,zF,zF,zF,zF,zF,zF,zF,zF,zF,zF]) rfl (by rfl) (by kernel_rfl) (by kernel_rfl) (by kernel_rfl) (fun _ _ _ h => h) (by rfl) ?_
        try simp only [Act.put, zp]
        refine skipE (i := 25) (L := #[zT,zT,zT,zT,zT,zT,zT,zT,zT,zT,zT,zT,zT,zT,zT,zT,zT,zT,zT,zT,zT,zT,zT,zT,zT,zT,zF,zF,zF,zF,zF,zF,zF,zF,zF,zF,zF,zF,zF,zF,zF]) rfl (by rfl) (by kernel_rfl) (by kernel_rfl) (by kernel_rfl) (fun _ _ _ h => h) (by rfl) ?_
        try simp only [Act.put, zp]
        refine skipE (i := 26) (L := #[zT,zT,zT,zT,zT,zT,zT,zT,zT,zT,zT,zT,zT,zT,zT,zT,zT,zT,zT,zT,zT,zT,zT,zT,zT,zT,zT,zF,zF,zF,zF,zF,zF,zF,zF,zF,zF,zF,zF,zF,zF]) rfl (by rfl) (by kernel_rfl) (by kernel_rfl) (by kernel_rfl) (fun _ _ _ h => h) (by rfl) ?_
        try simp only [Act.put, zp]
        refine skipE (i := 27) (L := #[zT,zT,zT,zT,zT,zT,zT,zT,zT,zT,zT,zT,zT,zT,zT,zT,zT,zT,zT,zT,zT,zT,zT,zT,zT,zT,zT,zT,zF,zF,zF,zF,zF,zF,zF,zF,zF,zF,zF,zF,zF]) rfl (by rfl) (by kernel_rfl) (by kernel_rfl) (by kernel_rfl) (fun _ _ _ h => h) (by rfl) ?_
        try simp only [Act.put, zp]
        refine skipE (i := 28) (L := #[zT,zT,zT,zT,zT,zT,zT,zT,zT,zT,zT,zT,zT,zT,zT,zT,zT,zT,zT,zT,zT,zT,zT,zT,zT,zT,zT,zT,zT,zF,zF,zF,zF,zF,zF,zF,zF,zF,zF,zF,zF]) rfl (by rfl) (by kernel_rfl) (by kernel_rfl) (by kernel_rfl) (fun _ _ _ h => h) (by rfl) ?_
        try simp only [Act.put, zp]
        refine skipE (i := 29) (L := #[zT,zT,zT,zT,zT,zT,zT,zT,zT,zT,zT,zT,zT,zT,zT,zT,zT,zT,zT,zT,zT,zT,zT,zT,zT,zT,zT,zT,zT,zT,zF,zF,zF,zF,zF,zF,zF,zF,zF,zF,zF]) rfl (by rfl) (by kernel_rfl) (by kernel_rfl) (by kernel_rfl) (fun _ _ _ h => h) (by rfl) ?_
        try simp only [Act.put, zp]
        refine skipE (i := 30) (L := #[zT,zT,zT,zT,zT,zT,zT,zT,zT,zT,zT,zT,zT,zT,zT,zT,zT,zT,zT,zT,zT,zT,zT,zT,zT,zT,zT,zT,zT,zT,zT,zF,zF,zF,zF,zF,zF,zF,zF,zF,zF]) rfl (by rfl) (by kernel_rfl) (by kernel_rfl) (by kernel_rfl) (fun _ _ _ h => h) (by rfl) ?_
        try simp only [Act.put, zp]
        refine skipE (i := 31) (L := #[zT,zT,zT,zT,zT,zT,zT,zT,zT,zT,zT,zT,zT,zT,zT,zT,zT,zT,zT,zT,zT,zT,zT,zT,zT,zT,zT,zT,zT,zT,zT,zT,zF,zF,zF,zF,zF,zF,zF,zF,zF]) rfl (by rfl) (by kernel_rfl) (by kernel_rfl) (by kernel_rfl) (fun _ _ _ h => h) (by rfl) ?_
        try simp only [Act.put, zp]
        refine skipE (i := 32) (L := #[zT,zT,zT,zT,zT,zT,zT,zT,zT,zT,zT,zT,zT,zT,zT,zT,zT,zT,zT,zT,zT,zT,zT,zT,zT,zT,zT,zT,zT,zT,zT,zT,zT,zF,zF,zF,zF,zF,zF,zF,zF]) rfl (by rfl) (by kernel_rfl) (by kernel_rfl) (by kernel_rfl) (fun _ _ _ h => h) (by rfl) ?_
        try simp only [Act.put, zp]
        refine skipE (i := 33) (L := #[zT,zT,zT,zT,zT,zT,zT,zT,zT,zT,zT,zT,zT,zT,zT,zT,zT,zT,zT,zT,zT,zT,zT,zT,zT,zT,zT,zT,zT,zT,zT,zT,zT,zT,zF,zF,zF,zF,zF,zF,zF]) rfl (by rfl) (by kernel_rfl) (by kernel_rfl) (by kernel_rfl) (fun _ _ _ h => h) (by rfl) ?_
        try simp only [Act.put, zp]
        refine skipE (i := 34) (L := #[zT,zT,zT,zT,zT,zT,zT,zT,zT,zT,zT,zT,zT,zT,zT,zT,zT,zT,zT,zT,zT,zT,zT,zT,zT,zT,zT,zT,zT,zT,zT,zT,zT,zT,zT,zF,zF,zF,zF,zF,zF]) rfl (by rfl) (by kernel_rfl) (by kernel_rfl) (by kernel_rfl) (fun _ _ _ h => h) (by rfl) ?_
        try simp only [Act.put, zp]
        refine skipE (i := 35) (L := #[zT,zT,zT,zT,zT,zT,zT,zT,zT,zT,zT,zT,zT,zT,zT,zT,zT,zT,zT,zT,zT,zT,zT,zT,zT,zT,zT,zT,zT,zT,zT,zT,zT,zT,zT,zT,zF,zF,zF,zF,zF]) rfl (by rfl) (by kernel_rfl) (by kernel_rfl) (by kernel_rfl) (fun _ _ _ h => h) (by rfl) ?_
        try simp only [Act.put, zp]
        refine skipE (i := 36) (L := #[zT,zT,zT,zT,zT,zT,zT,zT,zT,zT,zT,zT,zT,zT,zT,zT,zT,zT,zT,zT,zT,zT,zT,zT,zT,zT,zT,zT,zT,zT,zT,zT,zT,zT,zT,zT,zT,zF,zF,zF,zF]) rfl (by rfl) (by kernel_rfl) (by kernel_rfl) (by kernel_rfl) (fun _ _ _ h => h) (by rfl) ?_
        try simp only [Act.put, zp]
        refine skipE (i := 37) (L := #[zT,zT,zT,zT,zT,zT,zT,zT,zT,zT,zT,zT,zT,zT,zT,zT,zT,zT,zT,zT,zT,zT,zT,zT,zT,zT,zT,zT,zT,zT,zT,zT,zT,zT,zT,zT,zT,zT,zF,zF,zF]) rfl (by rfl) (by kernel_rfl) (by kernel_rfl) (by kernel_rfl) (fun _ _ _ h => h) (by rfl) ?_
        try simp only [Act.put, zp]
        refine skipE (i := 38) (L := #[zT,zT,zT,zT,zT,zT,zT,zT,zT,zT,zT,zT,zT,zT,zT,zT,zT,zT,zT,zT,zT,zT,zT,zT,zT,zT,zT,zT,zT,zT,zT,zT,zT,zT,zT,zT,zT,zT,zT,zF,zF]) rfl (by rfl) (by kernel_rfl) (by kernel_rfl) (by kernel_rfl) (fun _ _ _ h => h) (by rfl) ?_
        try simp only [Act.put, zp]
        refine skipE (i := 39) (L := #[zT,zT,zT,zT,zT,zT,zT,zT,zT,zT,zT,zT,zT,zT,zT,zT,zT,zT,zT,zT,zT,zT,zT,zT,zT,zT,zT,zT,zT,zT,zT,zT,zT,zT,zT,zT,zT,zT,zT,zT,zF]) rfl (by rfl) (by kernel_rfl) (by kernel_rfl) (by kernel_rfl) (fun _ _ _ h => h) (by rfl) ?_
        try simp only [Act.put, zp]
        refine zE 40 #[zT,zT,zT,zT,zT,zT,zT,zT,zT,zT,zT,zT,zT,zT,zT,zT,zT,zT,zT,zT,zT,zT,zT,zT,zT,zT,zT,zT,zT,zT,zT,zT,zT,zT,zT,zT,zT,zT,zT,zT,zT] ?_ rfl ?hy12 ?rest12
        case hy12 => intro w; go_simp; (try with_reducible rfl)
        try simp only [Act.put, zp]
        refine doneE (by kernel_rfl) ?_ _
        have hbz := hb.trans ((j2).mono lw)
        go_wp2
        go_ret
        exact ⟨rfl, hbz⟩
      · skip
        have d1 : decide (f.e < 0) = false := decide_eq_false a1
        by_cases a2 : (65535 : Int) < f.e
        · skip
          have hk' : k = 8 := by
           rw [← HK.out]
           exact checkF_no c1 (by rw [hmy2.out, decide_eq_false (by omega)]; rfl)
          subst hk'
          clear HK hmy2 HM
          go_wp2_with fail
          try clear hw
          refine region_E (Keeps wr) [] (m := 41) (L := #[zF,zF,zF,zF,zF,zF,zF,zF,zF,zF,zF,zF,zF,zF,zF,zF,zF,zF,zF,zF,zF,zF,zF,zF,zF,zF,zF,zF,zF,zF,zF,zF,zF,zF,zF,zF,zF,zF,zF,zF,zF]) (by kernel_rfl) (by rfl) (by rfl) ?_
          have j6 : Below wr.heap.size wr wr.drew := (Below.refl _ _).drew
          generalize wr.drew = v5 at *
          refine zE 0 #[zT,zF,zF,zF,zF,zF,zF,zF,zF,zF,zF,zF,zF,zF,zF,zF,zF,zF,zF,zF,zF,zF,zF,zF,zF,zF,zF,zF,zF,zF,zF,zF,zF,zF,zF,zF,zF,zF,zF,zF,zF] ?_ rfl ?hy13 ?rest13
          case hy13 => intro w; go_simp; (try with_reducible rfl)
          try simp only [Act.put, zp]
          refine zE 1 #[zT,zT,zF,zF,zF,zF,zF,zF,zF,zF,zF,zF,zF,zF,zF,zF,zF,zF,zF,zF,zF,zF,zF,zF,zF,zF,zF,zF,zF,zF,zF,zF,zF,zF,zF,zF,zF,zF,zF,zF,zF] ?_ rfl ?hy14 ?rest14
          case hy14 => intro w; go_simp; (try with_reducible rfl)
          try simp only [Act.put, zp]
          refine zE 2 #[zT,zT,zT,zF,zF,zF,zF,zF,zF,zF,zF,zF,zF,zF,zF,zF,zF,zF,zF,zF,zF,zF,zF,zF,zF,zF,zF,zF,zF,zF,zF,zF,zF,zF,zF,zF,zF,zF,zF,zF,zF] ?_ rfl ?hy15 ?rest15
          case hy15 => intro w; go_simp; (try with_reducible rfl)
          try simp only [Act.put, zp]
          refine zE 3 #[zT,zT,zT,zT,zF,zF,zF,zF,zF,zF,zF,zF,zF,zF,zF,zF,zF,zF,zF,zF,zF,zF,zF,zF,zF,zF,zF,zF,zF,zF,zF,zF,zF,zF,zF,zF,zF,zF,zF,zF,zF] ?_ rfl ?hy16 ?rest16
          case hy16 => intro w; go_simp; (try with_reducible rfl)
          try simp only [Act.put, zp]
          have kpy7 : Keeps wr v5 := fun p hp => Below.block j6 p hp
          refine readE (i := 4) (L := #[zT,zT,zT,zT,zT,zF,zF,zF,zF,zF,zF,zF,zF,zF,zF,zF,zF,zF,zF,zF,zF,zF,zF,zF,zF,zF,zF,zF,zF,zF,zF,zF,zF,zF,zF,zF,zF,zF,zF,zF,zF]) (v := .int .i64 f.e) rfl (by rfl) (by kernel_rfl) (by kernel_rfl) (by kernel_rfl) (fun _ _ _ h => h) (by assumption) (by rfl) ?y7 ?z8
          case y7 =>
           intro w' h1
           have k_ := (hci.out.blk (h1 _ hbw)).1
           try simp only [Nat.zero_mul, Nat.add_zero] at k_
           go_simp
          try simp only [Act.put, zp]
          refine zE 5 #[zT,zT,zT,zT,zT,zT,zF,zF,zF,zF,zF,zF,zF,zF,zF,zF,zF,zF,zF,zF,zF,zF,zF,zF,zF,zF,zF,zF,zF,zF,zF,zF,zF,zF,zF,zF,zF,zF,zF,zF,zF] ?_ rfl ?hy18 ?rest18
          case hy18 => intro w; go_simp; (try with_reducible rfl)
          try simp only [Act.put, zp]
          refine zE 6 #[zT,zT,zT,zT,zT,zT,zT,zF,zF,zF,zF,zF,zF,zF,zF,zF,zF,zF,zF,zF,zF,zF,zF,zF,zF,zF,zF,zF,zF,zF,zF,zF,zF,zF,zF,zF,zF,zF,zF,zF,zF] ?_ rfl ?hy19 ?rest19
          case hy19 => intro w; go_simp; (try with_reducible rfl)
          try simp only [Act.put, zp]
          refine zE 7 #[zT,zT,zT,zT,zT,zT,zT,zT,zF,zF,zF,zF,zF,zF,zF,zF,zF,zF,zF,zF,zF,zF,zF,zF,zF,zF,zF,zF,zF,zF,zF,zF,zF,zF,zF,zF,zF,zF,zF,zF,zF] ?_ rfl ?hy20 ?rest20
          case hy20 => intro w; go_simp; (try with_reducible rfl)
          try simp only [Act.put, zp]
          refine zE 8 #[zT,zT,zT,zT,zT,zT,zT,zT,zT,zF,zF,zF,zF,zF,zF,zF,zF,zF,zF,zF,zF,zF,zF,zF,zF,zF,zF,zF,zF,zF,zF,zF,zF,zF,zF,zF,zF,zF,zF,zF,zF] ?_ rfl ?hy21 ?rest21
          case hy21 => intro w; go_simp; (try with_reducible rfl)
          try simp only [Act.put, zp]
          refine zE 9 #[zT,zT,zT,zT,zT,zT,zT,zT,zT,zT,zF,zF,zF,zF,zF,zF,zF,zF,zF,zF,zF,zF,zF,zF,zF,zF,zF,zF,zF,zF,zF,zF,zF,zF,zF,zF,zF,zF,zF,zF,zF] ?_ rfl ?hy22 ?rest22
          case hy22 => intro w; go_simp; (try with_reducible rfl)
          try simp only [Act.put, zp]
          refine zE 10 #[zT,zT,zT,zT,zT,zT,zT,zT,zT,zT,zT,zF,zF,zF,zF,zF,zF,zF,zF,zF,zF,zF,zF,zF,zF,zF,zF,zF,zF,zF,zF,zF,zF,zF,zF,zF,zF,zF,zF,zF,zF] ?_ rfl ?hy23 ?rest23
          case hy23 => intro w; go_simp; (try with_reducible rfl)
          try simp only [Act.put, zp]
          have kpy9 : Keeps wr v5 := fun p hp => Below.block j6 p hp
          refine readE (i := 11) (L := #[zT,zT,zT,zT,zT,zT,zT,zT,zT,zT,zT,zT,zF,zF,zF,zF,zF,zF,zF,zF,zF,zF,zF,zF,zF,zF,zF,zF,zF,zF,zF,zF,zF,zF,zF,zF,zF,zF,zF,zF,zF]) (v := .int .i64 f.e) rfl (by rfl) (by kernel_rfl) (by kernel_rfl) (by kernel_rfl) (fun _ _ _ h => h) (by assumption) (by rfl) ?y9 ?z10
          case y9 =>
           intro w' h1
           have k_ := (hci.out.blk (h1 _ hbw)).1
           try simp only [Nat.zero_mul, Nat.add_zero] at k_
           go_simp
          try simp only [Act.put, zp]
          refine zE 12 #[zT,zT,zT,zT,zT,zT,zT,zT,zT,zT,zT,zT,zT,zF,zF,zF,zF,zF,zF,zF,zF,zF,zF,zF,zF,zF,zF,zF,zF,zF,zF,zF,zF,zF,zF,zF,zF,zF,zF,zF,zF] ?_ rfl ?hy25 ?rest25
          case hy25 => intro w; go_simp; (try with_reducible rfl)
          try simp only [Act.put, zp]
          refine zE 13 #[zT,zT,zT,zT,zT,zT,zT,zT,zT,zT,zT,zT,zT,zT,zF,zF,zF,zF,zF,zF,zF,zF,zF,zF,zF,zF,zF,zF,zF,zF,zF,zF,zF,zF,zF,zF,zF,zF,zF,zF,zF] ?_ rfl ?hy26 ?rest26
          case hy26 => intro w; go_simp; (try with_reducible rfl)
          try simp only [Act.put, zp]
          refine zE 14 #[zT,zT,zT,zT,zT,zT,zT,zT,zT,zT,zT,zT,zT,zT,zT,zF,zF,zF,zF,zF,zF,zF,zF,zF,zF,zF,zF,zF,zF,zF,zF,zF,zF,zF,zF,zF,zF,zF,zF,zF,zF] ?_ rfl ?hy27 ?rest27
          case hy27 => intro w; go_simp; (try with_reducible rfl)
          try simp only [Act.put, zp]
          refine skipE (i := 15) (L := #[zT,zT,zT,zT,zT,zT,zT,zT,zT,zT,zT,zT,zT,zT,zT,zT,zF,zF,zF,zF,zF,zF,zF,zF,zF,zF,zF,zF,zF,zF,zF,zF,zF,zF,zF,zF,zF,zF,zF,zF,zF]) rfl (by rfl) (by kernel_rfl) (by kernel_rfl) (by kernel_rfl) (fun _ _ _ h => h) (by rfl) ?_
          try simp only [Act.put, zp]
          refine skipE (i := 16) (L := #[zT,zT,zT,zT,zT,zT,zT,zT,zT,zT,zT,zT,zT,zT,zT,zT,zT,zF,zF,zF,zF,zF,zF,zF,zF,zF,zF,zF,zF,zF,zF,zF,zF,zF,zF,zF,zF,zF,zF,zF,zF]) rfl (by rfl) (by kernel_rfl) (by kernel_rfl) (by kernel_rfl) (fun _ _ _ h => h) (by rfl) ?_
          try simp only [Act.put, zp]
          refine skipE (i := 17) (L := #[zT,zT,zT,zT,zT,zT,zT,zT,zT,zT,zT,zT,zT,zT,zT,zT,zT,zT,zF,zF,zF,zF,zF,zF,zF,zF,zF,zF,zF,zF,zF,zF,zF,zF,zF,zF,zF,zF,zF,zF,zF]) rfl (by rfl) (by kernel_rfl) (by kernel_rfl) (by kernel_rfl) (fun _ _ _ h => h) (by rfl) ?_
          try simp only [Act.put, zp]
          refine skipE (i := 18) (L := #[zT,zT,zT,zT,zT,zT,zT,zT,zT,zT,zT,zT,zT,zT,zT,zT,zT,zT,zT,zF,zF,zF,zF,zF,zF,zF,zF,zF,zF,zF,zF,zF,zF,zF,zF,zF,zF,zF,zF,zF,zF]) rfl (by rfl) (by kernel_rfl) (by kernel_rfl) (by kernel_rfl) (fun _ _ _ h => h) (by rfl) ?_
          try simp only [Act.put, zp]
          refine skipE (i := 19) (L := #[zT,zT,zT,zT,zT,zT,zT,zT,zT,zT,zT,zT,zT,zT,zT,zT,zT,zT,zT,zT,zF,zF,zF,zF,zF,zF,zF,zF,zF,zF,zF,zF,zF,zF,zF,zF,zF,zF,zF,zF,zF]) rfl (by rfl) (by kernel_rfl) (by kernel_rfl) (by kernel_rfl) (fun _ _ _ h => h) (by rfl) ?_
          try simp only [Act.put, zp]
          refine skipE (i := 20) (L := #[zT,zT,zT,zT,zT,zT,zT,zT,zT,zT,zT,zT,zT,zT,zT,zT,zT,zT,zT,zT,zT,zF,zF,zF,zF,zF,zF,zF,zF,zF,zF,zF,zF,zF,zF,zF,zF,zF,zF,zF,zF]) rfl (by rfl) (by kernel_rfl) (by kernel_rfl) (by kernel_rfl) (fun _ _ _ h => h) (by rfl) ?_
          try simp only [Act.put, zp]
          refine skipE (i := 21) (L := #[zT,zT,zT,zT,zT,zT,zT,zT,zT,zT,zT,zT,zT,zT,zT,zT,zT,zT,zT,zT,zT,zT,zF,zF,zF,zF,zF,zF,zF,zF,zF,zF,zF,zF,zF,zF,zF,zF,zF,zF,zF]) rfl (by rfl) (by kernel_rfl) (by kernel_rfl) (by kernel_rfl) (fun _ _ _ h => h) (by rfl) ?_
          try simp only [Act.put, zp]
          refine zE 22 #[zT,zT,zT,zT,zT,zT,zT,zT,zT,zT,zT,zT,zT,zT,zT,zT,zT,zT,zT,zT,zT,zT,zT,zF,zF,zF,zF,zF,zF,zF,zF,zF,zF,zF,zF,zF,zF,zF,zF,zF,zF] ?_ rfl ?hy28 ?rest28
          case hy28 => intro w; go_simp; (try with_reducible rfl)
          try simp only [Act.put, zp]
          refine zE 23 #[zT,zT,zT,zT,zT,zT,zT,zT,zT,zT,zT,zT,zT,zT,zT,zT,zT,zT,zT,zT,zT,zT,zT,zT,zF,zF,zF,zF,zF,zF,zF,zF,zF,zF,zF,zF,zF,zF,zF,zF,zF] ?_ rfl ?hy29 ?rest29
          case hy29 => intro w; go_simp; (try with_reducible rfl)
          try simp only [Act.put, zp]
          refine skipE (i := 24) (L := #[zT,zT,zT,zT,zT,zT,zT,zT,zT,zT,zT,zT,zT,zT,zT,zT,zT,zT,zT,zT,zT,zT,zT,zT,zT,zF,zF,zF,zF,zF,zF,zF,zF,zF,zF,zF,zF,zF,zF,zF,zF]) rfl (by rfl) (by kernel_rfl) (by kernel_rfl) (by kernel_rfl) (fun _ _ _ h => h) (by rfl) ?_
          try simp only [Act.put, zp]
          refine skipE (i := 25) (L := #[zT,zT,zT,zT,zT,zT,zT,zT,zT,zT,zT,zT,zT,zT,zT,zT,zT,zT,zT,zT,zT,zT,zT,zT,zT,zT,zF,zF,zF,zF,zF,zF,zF,zF,zF,zF,zF,zF,zF,zF,zF]) rfl (by rfl) (by kernel_rfl) (by kernel_rfl) (by kernel_rfl) (fun _ _ _ h => h) (by rfl) ?_
          try simp only [Act.put, zp]
          refine skipE (i := 26) (L := #[zT,zT,zT,zT,zT,zT,zT,zT,zT,zT,zT,zT,zT,zT,zT,zT,zT,zT,zT,zT,zT,zT,zT,zT,zT,zT,zT,zF,zF,zF,zF,zF,zF,zF,zF,zF,zF,zF,zF,zF,zF]) rfl (by rfl) (by kernel_rfl) (by kernel_rfl) (by kernel_rfl) (fun _ _ _ h => h) (by rfl) ?_
          try simp only [Act.put, zp]
          refine skipE (i := 27) (L := #[zT,zT,zT,zT,zT,zT,zT,zT,zT,zT,zT,zT,zT,zT,zT,zT,zT,zT,zT,zT,zT,zT,zT,zT,zT,zT,zT,zT,zF,zF,zF,zF,zF,zF,zF,zF,zF,zF,zF,zF,zF]) rfl (by rfl) (by kernel_rfl) (by kernel_rfl) (by kernel_rfl) (fun _ _ _ h => h) (by rfl) ?_
          try simp only [Act.put, zp]
          refine skipE (i := 28) (L := #[zT,zT,zT,zT,zT,zT,zT,zT,zT,zT,zT,zT,zT,zT,zT,zT,zT,zT,zT,zT,zT,zT,zT,zT,zT,zT,zT,zT,zT,zF,zF,zF,zF,zF,zF,zF,zF,zF,zF,zF,zF]) rfl (by rfl) (by kernel_rfl) (by kernel_rfl) (by kernel_rfl) (fun _ _ _ h => h) (by rfl) ?_
          try simp only [Act.put, zp]
          refine skipE (i := 29) (L := #[zT,zT,zT,zT,zT,zT,zT,zT,zT,zT,zT,zT,zT,zT,zT,zT,zT,zT,zT,zT,zT,zT,zT,zT,zT,zT,zT,zT,zT,zT,zF,zF,zF,zF,zF,zF,zF,zF,zF,zF,zF]) rfl (by rfl) (by kernel_rfl) (by kernel_rfl) (by kernel_rfl) (fun _ _ _ h => h) (by rfl) ?_
          try simp only [Act.put, zp]
          refine skipE (i := 30) (L := #[zT,zT,zT,zT,zT,zT,zT,zT,zT,zT,zT,zT,zT,zT,zT,zT,zT,zT,zT,zT,zT,zT,zT,zT,zT,zT,zT,zT,zT,zT,zT,zF,zF,zF,zF,zF,zF,zF,zF,zF,zF]) rfl (by rfl) (by kernel_rfl) (by kernel_rfl) (by kernel_rfl) (fun _ _ _ h => h) (by rfl) ?_
          try simp only [Act.put, zp]
          refine skipE (i := 31) (L := #[zT,zT,zT,zT,zT,zT,zT,zT,zT,zT,zT,zT,zT,zT,zT,zT,zT,zT,zT,zT,zT,zT,zT,zT,zT,zT,zT,zT,zT,zT,zT,zT,zF,zF,zF,zF,zF,zF,zF,zF,zF]) rfl (by rfl) (by kernel_rfl) (by kernel_rfl) (by kernel_rfl) (fun _ _ _ h => h) (by rfl) ?_
          try simp only [Act.put, zp]
          refine skipE (i := 32) (L := #[zT,zT,zT,zT,zT,zT,zT,zT,zT,zT,zT,zT,zT,zT,zT,zT,zT,zT,zT,zT,zT,zT,zT,zT,zT,zT,zT,zT,zT,zT,zT,zT,zT,zF,zF,zF,zF,zF,zF,zF,zF]) rfl (by rfl) (by kernel_rfl) (by kernel_rfl) (by kernel_rfl) (fun _ _ _ h => h) (by rfl) ?_
          try simp only [Act.put, zp]
          refine skipE (i := 33) (L := #[zT,zT,zT,zT,zT,zT,zT,zT,zT,zT,zT,zT,zT,zT,zT,zT,zT,zT,zT,zT,zT,zT,zT,zT,zT,zT,zT,zT,zT,zT,zT,zT,zT,zT,zF,zF,zF,zF,zF,zF,zF]) rfl (by rfl) (by kernel_rfl) (by kernel_rfl) (by kernel_rfl) (fun _ _ _ h => h) (by rfl) ?_
          try simp only [Act.put, zp]
          refine skipE (i := 34) (L := #[zT,zT,zT,zT,zT,zT,zT,zT,zT,zT,zT,zT,zT,zT,zT,zT,zT,zT,zT,zT,zT,zT,zT,zT,zT,zT,zT,zT,zT,zT,zT,zT,zT,zT,zT,zF,zF,zF,zF,zF,zF]) rfl (by rfl) (by kernel_rfl) (by kernel_rfl) (by kernel_rfl) (fun _ _ _ h => h) (by rfl) ?_
          try simp only [Act.put, zp]
          refine skipE (i := 35) (L := #[zT,zT,zT,zT,zT,zT,zT,zT,zT,zT,zT,zT,zT,zT,zT,zT,zT,zT,zT,zT,zT,zT,zT,zT,zT,zT,zT,zT,zT,zT,zT,zT,zT,zT,zT,zT,zF,zF,zF,zF,zF]) rfl (by rfl) (by kernel_rfl) (by kernel_rfl) (by kernel_rfl) (fun _ _ _ h => h) (by rfl) ?_
          try simp only [Act.put, zp]
          refine skipE (i := 36) (L := #[zT,zT,zT,zT,zT,zT,zT,zT,zT,zT,zT,zT,zT,zT,zT,zT,zT,zT,zT,zT,zT,zT,zT,zT,zT,zT,zT,zT,zT,zT,zT,zT,zT,zT,zT,zT,zT,zF,zF,zF,zF]) rfl (by rfl) (by kernel_rfl) (by kernel_rfl) (by kernel_rfl) (fun _ _ _ h => h) (by rfl) ?_
          try simp only [Act.put, zp]
          refine skipE (i := 37) (L := #[zT,zT,zT,zT,zT,zT,zT,zT,zT,zT,zT,zT,zT,zT,zT,zT,zT,zT,zT,zT,zT,zT,zT,zT,zT,zT,zT,zT,zT,zT,zT,zT,zT,zT,zT,zT,zT,zT,zF,zF,zF]) rfl (by rfl) (by kernel_rfl) (by kernel_rfl) (by kernel_rfl) (fun _ _ _ h => h) (by rfl) ?_
          try simp only [Act.put, zp]
          refine skipE (i := 38) (L := #[zT,zT,zT,zT,zT,zT,zT,zT,zT,zT,zT,zT,zT,zT,zT,zT,zT,zT,zT,zT,zT,zT,zT,zT,zT,zT,zT,zT,zT,zT,zT,zT,zT,zT,zT,zT,zT,zT,zT,zF,zF]) rfl (by rfl) (by kernel_rfl) (by kernel_rfl) (by kernel_rfl) (fun _ _ _ h => h) (by rfl) ?_
          try simp only [Act.put, zp]
          refine skipE (i := 39) (L := #[zT,zT,zT,zT,zT,zT,zT,zT,zT,zT,zT,zT,zT,zT,zT,zT,zT,zT,zT,zT,zT,zT,zT,zT,zT,zT,zT,zT,zT,zT,zT,zT,zT,zT,zT,zT,zT,zT,zT,zT,zF]) rfl (by rfl) (by kernel_rfl) (by kernel_rfl) (by kernel_rfl) (fun _ _ _ h => h) (by rfl) ?_
          try simp only [Act.put, zp]
          refine zE 40 #[zT,zT,zT,zT,zT,zT,zT,zT,zT,zT,zT,zT,zT,zT,zT,zT,zT,zT,zT,zT,zT,zT,zT,zT,zT,zT,zT,zT,zT,zT,zT,zT,zT,zT,zT,zT,zT,zT,zT,zT,zT] ?_ rfl ?hy30 ?rest30
          case hy30 => intro w; go_simp; (try with_reducible rfl)
          try simp only [Act.put, zp]
          refine doneE (by kernel_rfl) ?_ _
          have hbz := hb.trans ((j6).mono lw)
          go_wp2
          go_ret
          exact ⟨rfl, hbz⟩
        · skip
          have d2 : decide ((65535 : Int) < f.e) = false := decide_eq_false a2
          cases m
          · skip
            have hk' : k = 8 := by
             rw [← HK.out]
             exact checkF_no c1 (by rw [hmy2.out, HM.out]; simp)
            subst hk'
            clear HK hmy2
            go_wp2_with fail
            try clear hw
            refine region_E (Keeps wr) [] (m := 41) (L := #[zF,zF,zF,zF,zF,zF,zF,zF,zF,zF,zF,zF,zF,zF,zF,zF,zF,zF,zF,zF,zF,zF,zF,zF,zF,zF,zF,zF,zF,zF,zF,zF,zF,zF,zF,zF,zF,zF,zF,zF,zF]) (by kernel_rfl) (by rfl) (by rfl) ?_
            have j12 : Below wr.heap.size wr wr.drew := (Below.refl _ _).drew
            generalize wr.drew = v11 at *
            refine zE 0 #[zT,zF,zF,zF,zF,zF,zF,zF,zF,zF,zF,zF,zF,zF,zF,zF,zF,zF,zF,zF,zF,zF,zF,zF,zF,zF,zF,zF,zF,zF,zF,zF,zF,zF,zF,zF,zF,zF,zF,zF,zF] ?_ rfl ?hy31 ?rest31
            case hy31 => intro w; go_simp; (try with_reducible rfl)
            try simp only [Act.put, zp]
            refine zE 1 #[zT,zT,zF,zF,zF,zF,zF,zF,zF,zF,zF,zF,zF,zF,zF,zF,zF,zF,zF,zF,zF,zF,zF,zF,zF,zF,zF,zF,zF,zF,zF,zF,zF,zF,zF,zF,zF,zF,zF,zF,zF] ?_ rfl ?hy32 ?rest32
            case hy32 => intro w; go_simp; (try with_reducible rfl)
            try simp only [Act.put, zp]
            refine zE 2 #[zT,zT,zT,zF,zF,zF,zF,zF,zF,zF,zF,zF,zF,zF,zF,zF,zF,zF,zF,zF,zF,zF,zF,zF,zF,zF,zF,zF,zF,zF,zF,zF,zF,zF,zF,zF,zF,zF,zF,zF,zF] ?_ rfl ?hy33 ?rest33
            case hy33 => intro w; go_simp; (try with_reducible rfl)
            try simp only [Act.put, zp]
            refine zE 3 #[zT,zT,zT,zT,zF,zF,zF,zF,zF,zF,zF,zF,zF,zF,zF,zF,zF,zF,zF,zF,zF,zF,zF,zF,zF,zF,zF,zF,zF,zF,zF,zF,zF,zF,zF,zF,zF,zF,zF,zF,zF] ?_ rfl ?hy34 ?rest34
            case hy34 => intro w; go_simp; (try with_reducible rfl)
            try simp only [Act.put, zp]
            have kpy13 : Keeps wr v11 := fun p hp => Below.block j12 p hp
            refine readE (i := 4) (L := #[zT,zT,zT,zT,zT,zF,zF,zF,zF,zF,zF,zF,zF,zF,zF,zF,zF,zF,zF,zF,zF,zF,zF,zF,zF,zF,zF,zF,zF,zF,zF,zF,zF,zF,zF,zF,zF,zF,zF,zF,zF]) (v := .int .i64 f.e) rfl (by rfl) (by kernel_rfl) (by kernel_rfl) (by kernel_rfl) (fun _ _ _ h => h) (by assumption) (by rfl) ?y13 ?z14
            case y13 =>
             intro w' h1
             have k_ := (hci.out.blk (h1 _ hbw)).1
             try simp only [Nat.zero_mul, Nat.add_zero] at k_
             go_simp
            try simp only [Act.put, zp]
            refine zE 5 #[zT,zT,zT,zT,zT,zT,zF,zF,zF,zF,zF,zF,zF,zF,zF,zF,zF,zF,zF,zF,zF,zF,zF,zF,zF,zF,zF,zF,zF,zF,zF,zF,zF,zF,zF,zF,zF,zF,zF,zF,zF] ?_ rfl ?hy36 ?rest36
            case hy36 => intro w; go_simp; (try with_reducible rfl)
            try simp only [Act.put, zp]
            refine zE 6 #[zT,zT,zT,zT,zT,zT,zT,zF,zF,zF,zF,zF,zF,zF,zF,zF,zF,zF,zF,zF,zF,zF,zF,zF,zF,zF,zF,zF,zF,zF,zF,zF,zF,zF,zF,zF,zF,zF,zF,zF,zF] ?_ rfl ?hy37 ?rest37
            case hy37 => intro w; go_simp; (try with_reducible rfl)
            try simp only [Act.put, zp]
            refine zE 7 #[zT,zT,zT,zT,zT,zT,zT,zT,zF,zF,zF,zF,zF,zF,zF,zF,zF,zF,zF,zF,zF,zF,zF,zF,zF,zF,zF,zF,zF,zF,zF,zF,zF,zF,zF,zF,zF,zF,zF,zF,zF] ?_ rfl ?hy38 ?rest38
            case hy38 => intro w; go_simp; (try with_reducible rfl)
            try simp only [Act.put, zp]
            refine zE 8 #[zT,zT,zT,zT,zT,zT,zT,zT,zT,zF,zF,zF,zF,zF,zF,zF,zF,zF,zF,zF,zF,zF,zF,zF,zF,zF,zF,zF,zF,zF,zF,zF,zF,zF,zF,zF,zF,zF,zF,zF,zF] ?_ rfl ?hy39 ?rest39
            case hy39 => intro w; go_simp; (try with_reducible rfl)
            try simp only [Act.put, zp]
            refine zE 9 #[zT,zT,zT,zT,zT,zT,zT,zT,zT,zT,zF,zF,zF,zF,zF,zF,zF,zF,zF,zF,zF,zF,zF,zF,zF,zF,zF,zF,zF,zF,zF,zF,zF,zF,zF,zF,zF,zF,zF,zF,zF] ?_ rfl ?hy40 ?rest40
            case hy40 => intro w; go_simp; (try with_reducible rfl)
            try simp only [Act.put, zp]
            refine zE 10 #[zT,zT,zT,zT,zT,zT,zT,zT,zT,zT,zT,zF,zF,zF,zF,zF,zF,zF,zF,zF,zF,zF,zF,zF,zF,zF,zF,zF,zF,zF,zF,zF,zF,zF,zF,zF,zF,zF,zF,zF,zF] ?_ rfl ?hy41 ?rest41
            case hy41 => intro w; go_simp; (try with_reducible rfl)
            try simp only [Act.put, zp]
            have kpy15 : Keeps wr v11 := fun p hp => Below.block j12 p hp
            refine readE (i := 11) (L := #[zT,zT,zT,zT,zT,zT,zT,zT,zT,zT,zT,zT,zF,zF,zF,zF,zF,zF,zF,zF,zF,zF,zF,zF,zF,zF,zF,zF,zF,zF,zF,zF,zF,zF,zF,zF,zF,zF,zF,zF,zF]) (v := .int .i64 f.e) rfl (by rfl) (by kernel_rfl) (by kernel_rfl) (by kernel_rfl) (fun _ _ _ h => h) (by assumption) (by rfl) ?y15 ?z16
            case y15 =>
             intro w' h1
             have k_ := (hci.out.blk (h1 _ hbw)).1
             try simp only [Nat.zero_mul, Nat.add_zero] at k_
             go_simp
            try simp only [Act.put, zp]
            refine zE 12 #[zT,zT,zT,zT,zT,zT,zT,zT,zT,zT,zT,zT,zT,zF,zF,zF,zF,zF,zF,zF,zF,zF,zF,zF,zF,zF,zF,zF,zF,zF,zF,zF,zF,zF,zF,zF,zF,zF,zF,zF,zF] ?_ rfl ?hy43 ?rest43
            case hy43 => intro w; go_simp; (try with_reducible rfl)
            try simp only [Act.put, zp]
            refine zE 13 #[zT,zT,zT,zT,zT,zT,zT,zT,zT,zT,zT,zT,zT,zT,zF,zF,zF,zF,zF,zF,zF,zF,zF,zF,zF,zF,zF,zF,zF,zF,zF,zF,zF,zF,zF,zF,zF,zF,zF,zF,zF] ?_ rfl ?hy44 ?rest44
            case hy44 => intro w; go_simp; (try with_reducible rfl)
            try simp only [Act.put, zp]
            refine zE 14 #[zT,zT,zT,zT,zT,zT,zT,zT,zT,zT,zT,zT,zT,zT,zT,zF,zF,zF,zF,zF,zF,zF,zF,zF,zF,zF,zF,zF,zF,zF,zF,zF,zF,zF,zF,zF,zF,zF,zF,zF,zF] ?_ rfl ?hy45 ?rest45
            case hy45 => intro w; go_simp; (try with_reducible rfl)
            try simp only [Act.put, zp]
            refine zE 15 #[zT,zT,zT,zT,zT,zT,zT,zT,zT,zT,zT,zT,zT,zT,zT,zT,zF,zF,zF,zF,zF,zF,zF,zF,zF,zF,zF,zF,zF,zF,zF,zF,zF,zF,zF,zF,zF,zF,zF,zF,zF] ?_ rfl ?hy46 ?rest46
            case hy46 => intro w; go_simp; (try with_reducible rfl)
            try simp only [Act.put, zp]
            refine zE 16 #[zT,zT,zT,zT,zT,zT,zT,zT,zT,zT,zT,zT,zT,zT,zT,zT,zT,zF,zF,zF,zF,zF,zF,zF,zF,zF,zF,zF,zF,zF,zF,zF,zF,zF,zF,zF,zF,zF,zF,zF,zF] ?_ rfl ?hy47 ?rest47
            case hy47 => intro w; go_simp; (try with_reducible rfl)
            try simp only [Act.put, zp]
            refine zE 17 #[zT,zT,zT,zT,zT,zT,zT,zT,zT,zT,zT,zT,zT,zT,zT,zT,zT,zT,zF,zF,zF,zF,zF,zF,zF,zF,zF,zF,zF,zF,zF,zF,zF,zF,zF,zF,zF,zF,zF,zF,zF] ?_ rfl ?hy48 ?rest48
            case hy48 => intro w; go_simp; (try with_reducible rfl)
            try simp only [Act.put, zp]
            refine zE 18 #[zT,zT,zT,zT,zT,zT,zT,zT,zT,zT,zT,zT,zT,zT,zT,zT,zT,zT,zT,zF,zF,zF,zF,zF,zF,zF,zF,zF,zF,zF,zF,zF,zF,zF,zF,zF,zF,zF,zF,zF,zF] ?_ rfl ?hy49 ?rest49
            case hy49 => intro w; go_simp; (try with_reducible rfl)
            try simp only [Act.put, zp]
            have kpy17 : Keeps wr v11 := fun p hp => Below.block j12 p hp
            refine readE (i := 19) (L := #[zT,zT,zT,zT,zT,zT,zT,zT,zT,zT,zT,zT,zT,zT,zT,zT,zT,zT,zT,zT,zF,zF,zF,zF,zF,zF,zF,zF,zF,zF,zF,zF,zF,zF,zF,zF,zF,zF,zF,zF,zF]) (v := .agg #[.bool f.P.M.S.s, .slice f.P.M.S.A f.P.M.S.n f.P.M.S.c, .int .i64 f.P.M.S.e, .bool f.P.M.W.s, .slice f.P.M.W.A f.P.M.W.n f.P.M.W.c, .int .i64 f.P.M.W.e, .bool f.P.M.C.s, .slice f.P.M.C.A f.P.M.C.n f.P.M.C.c, .int .i64 f.P.M.C.e, .bool f.P.M.A.s, .slice f.P.M.A.A f.P.M.A.n f.P.M.A.c, .int .i64 f.P.M.A.e, .bool f.P.h, .int .i64 f.P.mn, .int .i64 f.P.mx, .slice f.P.A f.P.n f.P.c]) rfl (by rfl) (by kernel_rfl) (by kernel_rfl) (by kernel_rfl) (fun _ _ _ h => h) (by assumption) (by rfl) ?y17 ?z18
            case y17 =>
             intro w' h1
             obtain ⟨k_, k0, k1, k2, k3, k4, k5, k6, k7, k8, k9, k10, k11, k12, k13, k14, k15⟩ := hci.out.blk (h1 _ hbw)
             go_simp
            try simp only [Act.put, zp]
            refine stepK (i := 20) (L := #[zT,zT,zT,zT,zT,zT,zT,zT,zT,zT,zT,zT,zT,zT,zT,zT,zT,zT,zT,zT,zT,zF,zF,zF,zF,zF,zF,zF,zF,zF,zF,zF,zF,zF,zF,zF,zF,zF,zF,zF,zF]) rfl (by rfl) (by kernel_rfl) (by rfl) (fun K hK => ?_)
            go_simp
            go_at_call 65
            refine (MayPart_any v11 f.P (PRows.on hri j12) false HM.out).mono ?_
            rintro e' v19 ⟨rfl, j20⟩
            refine hK _ _ ⟨fun _ _ => fun p hp => Below.block (later j12 j20) p hp, ?_⟩
            clear hK K
            try simp only []
            refine zE 21 #[zT,zT,zT,zT,zT,zT,zT,zT,zT,zT,zT,zT,zT,zT,zT,zT,zT,zT,zT,zT,zT,zT,zF,zF,zF,zF,zF,zF,zF,zF,zF,zF,zF,zF,zF,zF,zF,zF,zF,zF,zF] ?_ rfl ?hy52 ?rest52
            case hy52 => intro w; go_simp; (try with_reducible rfl)
            try simp only [Act.put, zp]
            refine zE 22 #[zT,zT,zT,zT,zT,zT,zT,zT,zT,zT,zT,zT,zT,zT,zT,zT,zT,zT,zT,zT,zT,zT,zT,zF,zF,zF,zF,zF,zF,zF,zF,zF,zF,zF,zF,zF,zF,zF,zF,zF,zF] ?_ rfl ?hy53 ?rest53
            case hy53 => intro w; go_simp; (try with_reducible rfl)
            try simp only [Act.put, zp]
            refine zE 23 #[zT,zT,zT,zT,zT,zT,zT,zT,zT,zT,zT,zT,zT,zT,zT,zT,zT,zT,zT,zT,zT,zT,zT,zT,zF,zF,zF,zF,zF,zF,zF,zF,zF,zF,zF,zF,zF,zF,zF,zF,zF] ?_ rfl ?hy54 ?rest54
            case hy54 => intro w; go_simp; (try with_reducible rfl)
            try simp only [Act.put, zp]
            refine skipE (i := 24) (L := #[zT,zT,zT,zT,zT,zT,zT,zT,zT,zT,zT,zT,zT,zT,zT,zT,zT,zT,zT,zT,zT,zT,zT,zT,zT,zF,zF,zF,zF,zF,zF,zF,zF,zF,zF,zF,zF,zF,zF,zF,zF]) rfl (by rfl) (by kernel_rfl) (by kernel_rfl) (by kernel_rfl) (fun _ _ _ h => h) (by rfl) ?_
            try simp only [Act.put, zp]
            refine skipE (i := 25) (L := #[zT,zT,zT,zT,zT,zT,zT,zT,zT,zT,zT,zT,zT,zT,zT,zT,zT,zT,zT,zT,zT,zT,zT,zT,zT,zT,zF,zF,zF,zF,zF,zF,zF,zF,zF,zF,zF,zF,zF,zF,zF]) rfl (by rfl) (by kernel_rfl) (by kernel_rfl) (by kernel_rfl) (fun _ _ _ h => h) (by rfl) ?_
            try simp only [Act.put, zp]
            refine skipE (i := 26) (L := #[zT,zT,zT,zT,zT,zT,zT,zT,zT,zT,zT,zT,zT,zT,zT,zT,zT,zT,zT,zT,zT,zT,zT,zT,zT,zT,zT,zF,zF,zF,zF,zF,zF,zF,zF,zF,zF,zF,zF,zF,zF]) rfl (by rfl) (by kernel_rfl) (by kernel_rfl) (by kernel_rfl) (fun _ _ _ h => h) (by rfl) ?_
            try simp only [Act.put, zp]
            refine skipE (i := 27) (L := #[zT,zT,zT,zT,zT,zT,zT,zT,zT,zT,zT,zT,zT,zT,zT,zT,zT,zT,zT,zT,zT,zT,zT,zT,zT,zT,zT,zT,zF,zF,zF,zF,zF,zF,zF,zF,zF,zF,zF,zF,zF]) rfl (by rfl) (by kernel_rfl) (by kernel_rfl) (by kernel_rfl) (fun _ _ _ h => h) (by rfl) ?_
            try simp only [Act.put, zp]
            refine skipE (i := 28) (L := #[zT,zT,zT,zT,zT,zT,zT,zT,zT,zT,zT,zT,zT,zT,zT,zT,zT,zT,zT,zT,zT,zT,zT,zT,zT,zT,zT,zT,zT,zF,zF,zF,zF,zF,zF,zF,zF,zF,zF,zF,zF]) rfl (by rfl) (by kernel_rfl) (by kernel_rfl) (by kernel_rfl) (fun _ _ _ h => h) (by rfl) ?_
            try simp only [Act.put, zp]
            refine skipE (i := 29) (L := #[zT,zT,zT,zT,zT,zT,zT,zT,zT,zT,zT,zT,zT,zT,zT,zT,zT,zT,zT,zT,zT,zT,zT,zT,zT,zT,zT,zT,zT,zT,zF,zF,zF,zF,zF,zF,zF,zF,zF,zF,zF]) rfl (by rfl) (by kernel_rfl) (by kernel_rfl) (by kernel_rfl) (fun _ _ _ h => h) (by rfl) ?_
            try simp only [Act.put, zp]
            refine skipE (i := 30) (L := #[zT,zT,zT,zT,zT,zT,zT,zT,zT,zT,zT,zT,zT,zT,zT,zT,zT,zT,zT,zT,zT,zT,zT,zT,zT,zT,zT,zT,zT,zT,zT,zF,zF,zF,zF,zF,zF,zF,zF,zF,zF]) rfl (by rfl) (by kernel_rfl) (by kernel_rfl) (by kernel_rfl) (fun _ _ _ h => h) (by rfl) ?_
            try simp only [Act.put, zp]
            refine skipE (i := 31) (L := #[zT,zT,zT,zT,zT,zT,zT,zT,zT,zT,zT,zT,zT,zT,zT,zT,zT,zT,zT,zT,zT,zT,zT,zT,zT,zT,zT,zT,zT,zT,zT,zT,zF,zF,zF,zF,zF,zF,zF,zF,zF]) rfl (by rfl) (by kernel_rfl) (by kernel_rfl) (by kernel_rfl) (fun _ _ _ h => h) (by rfl) ?_
            try simp only [Act.put, zp]
            refine skipE (i := 32) (L := #[zT,zT,zT,zT,zT,zT,zT,zT,zT,zT,zT,zT,zT,zT,zT,zT,zT,zT,zT,zT,zT,zT,zT,zT,zT,zT,zT,zT,zT,zT,zT,zT,zT,zF,zF,zF,zF,zF,zF,zF,zF]) rfl (by rfl) (by kernel_rfl) (by kernel_rfl) (by kernel_rfl) (fun _ _ _ h => h) (by rfl) ?_
            try simp only [Act.put, zp]
            refine skipE (i := 33) (L := #[zT,zT,zT,zT,zT,zT,zT,zT,zT,zT,zT,zT,zT,zT,zT,zT,zT,zT,zT,zT,zT,zT,zT,zT,zT,zT,zT,zT,zT,zT,zT,zT,zT,zT,zF,zF,zF,zF,zF,zF,zF]) rfl (by rfl) (by kernel_rfl) (by kernel_rfl) (by kernel_rfl) (fun _ _ _ h => h) (by rfl) ?_
            try simp only [Act.put, zp]
            refine skipE (i := 34) (L := #[zT,zT,zT,zT,zT,zT,zT,zT,zT,zT,zT,zT,zT,zT,zT,zT,zT,zT,zT,zT,zT,zT,zT,zT,zT,zT,zT,zT,zT,zT,zT,zT,zT,zT,zT,zF,zF,zF,zF,zF,zF]) rfl (by rfl) (by kernel_rfl) (by kernel_rfl) (by kernel_rfl) (fun _ _ _ h => h) (by rfl) ?_
            try simp only [Act.put, zp]
            refine skipE (i := 35) (L := #[zT,zT,zT,zT,zT,zT,zT,zT,zT,zT,zT,zT,zT,zT,zT,zT,zT,zT,zT,zT,zT,zT,zT,zT,zT,zT,zT,zT,zT,zT,zT,zT,zT,zT,zT,zT,zF,zF,zF,zF,zF]) rfl (by rfl) (by kernel_rfl) (by kernel_rfl) (by kernel_rfl) (fun _ _ _ h => h) (by rfl) ?_
            try simp only [Act.put, zp]
            refine skipE (i := 36) (L := #[zT,zT,zT,zT,zT,zT,zT,zT,zT,zT,zT,zT,zT,zT,zT,zT,zT,zT,zT,zT,zT,zT,zT,zT,zT,zT,zT,zT,zT,zT,zT,zT,zT,zT,zT,zT,zT,zF,zF,zF,zF]) rfl (by rfl) (by kernel_rfl) (by kernel_rfl) (by kernel_rfl) (fun _ _ _ h => h) (by rfl) ?_
            try simp only [Act.put, zp]
            refine skipE (i := 37) (L := #[zT,zT,zT,zT,zT,zT,zT,zT,zT,zT,zT,zT,zT,zT,zT,zT,zT,zT,zT,zT,zT,zT,zT,zT,zT,zT,zT,zT,zT,zT,zT,zT,zT,zT,zT,zT,zT,zT,zF,zF,zF]) rfl (by rfl) (by kernel_rfl) (by kernel_rfl) (by kernel_rfl) (fun _ _ _ h => h) (by rfl) ?_
            try simp only [Act.put, zp]
            refine skipE (i := 38) (L := #[zT,zT,zT,zT,zT,zT,zT,zT,zT,zT,zT,zT,zT,zT,zT,zT,zT,zT,zT,zT,zT,zT,zT,zT,zT,zT,zT,zT,zT,zT,zT,zT,zT,zT,zT,zT,zT,zT,zT,zF,zF]) rfl (by rfl) (by kernel_rfl) (by kernel_rfl) (by kernel_rfl) (fun _ _ _ h => h) (by rfl) ?_
            try simp only [Act.put, zp]
            refine skipE (i := 39) (L := #[zT,zT,zT,zT,zT,zT,zT,zT,zT,zT,zT,zT,zT,zT,zT,zT,zT,zT,zT,zT,zT,zT,zT,zT,zT,zT,zT,zT,zT,zT,zT,zT,zT,zT,zT,zT,zT,zT,zT,zT,zF]) rfl (by rfl) (by kernel_rfl) (by kernel_rfl) (by kernel_rfl) (fun _ _ _ h => h) (by rfl) ?_
            try simp only [Act.put, zp]
            refine zE 40 #[zT,zT,zT,zT,zT,zT,zT,zT,zT,zT,zT,zT,zT,zT,zT,zT,zT,zT,zT,zT,zT,zT,zT,zT,zT,zT,zT,zT,zT,zT,zT,zT,zT,zT,zT,zT,zT,zT,zT,zT,zT] ?_ rfl ?hy55 ?rest55
            case hy55 => intro w; go_simp; (try with_reducible rfl)
            try simp only [Act.put, zp]
            refine doneE (by kernel_rfl) ?_ _
            have hbz := hb.trans (((later j12 j20)).mono lw)
            go_wp2
            go_ret
            exact ⟨rfl, hbz⟩
          · skip
            by_cases a3 : 0 < i
            rotate_left
            · skip
              obtain rfl : i = 0 := by omega
              have d4 : decide ((0 : Int) < ((0 : Nat) : Int)) = false := rfl
              have hmy3 : Hid (mayF (-1) fs = mayF f.e (fs.drop (0 + 1))) := Lib.hid (by rw [hmy2.out, HM.out, decide_eq_true (by have := hl0.out; omega)]; simp)
              go_wp2_with fail
              try clear hw
              refine region_E (Keeps wr) [] (m := 41) (L := #[zF,zF,zF,zF,zF,zF,zF,zF,zF,zF,zF,zF,zF,zF,zF,zF,zF,zF,zF,zF,zF,zF,zF,zF,zF,zF,zF,zF,zF,zF,zF,zF,zF,zF,zF,zF,zF,zF,zF,zF,zF]) (by kernel_rfl) (by rfl) (by rfl) ?_
              have j22 : Below wr.heap.size wr wr.drew := (Below.refl _ _).drew
              generalize wr.drew = v21 at *
              refine zE 0 #[zT,zF,zF,zF,zF,zF,zF,zF,zF,zF,zF,zF,zF,zF,zF,zF,zF,zF,zF,zF,zF,zF,zF,zF,zF,zF,zF,zF,zF,zF,zF,zF,zF,zF,zF,zF,zF,zF,zF,zF,zF] ?_ rfl ?hy56 ?rest56
              case hy56 => intro w; go_simp; (try with_reducible rfl)
              try simp only [Act.put, zp]
              refine zE 1 #[zT,zT,zF,zF,zF,zF,zF,zF,zF,zF,zF,zF,zF,zF,zF,zF,zF,zF,zF,zF,zF,zF,zF,zF,zF,zF,zF,zF,zF,zF,zF,zF,zF,zF,zF,zF,zF,zF,zF,zF,zF] ?_ rfl ?hy57 ?rest57
              case hy57 => intro w; go_simp; (try with_reducible rfl)
              try simp only [Act.put, zp]
              refine zE 2 #[zT,zT,zT,zF,zF,zF,zF,zF,zF,zF,zF,zF,zF,zF,zF,zF,zF,zF,zF,zF,zF,zF,zF,zF,zF,zF,zF,zF,zF,zF,zF,zF,zF,zF,zF,zF,zF,zF,zF,zF,zF] ?_ rfl ?hy58 ?rest58
              case hy58 => intro w; go_simp; (try with_reducible rfl)
              try simp only [Act.put, zp]
              refine zE 3 #[zT,zT,zT,zT,zF,zF,zF,zF,zF,zF,zF,zF,zF,zF,zF,zF,zF,zF,zF,zF,zF,zF,zF,zF,zF,zF,zF,zF,zF,zF,zF,zF,zF,zF,zF,zF,zF,zF,zF,zF,zF] ?_ rfl ?hy59 ?rest59
              case hy59 => intro w; go_simp; (try with_reducible rfl)
              try simp only [Act.put, zp]
              have kpy23 : Keeps wr v21 := fun p hp => Below.block j22 p hp
              refine readE (i := 4) (L := #[zT,zT,zT,zT,zT,zF,zF,zF,zF,zF,zF,zF,zF,zF,zF,zF,zF,zF,zF,zF,zF,zF,zF,zF,zF,zF,zF,zF,zF,zF,zF,zF,zF,zF,zF,zF,zF,zF,zF,zF,zF]) (v := .int .i64 f.e) rfl (by rfl) (by kernel_rfl) (by kernel_rfl) (by kernel_rfl) (fun _ _ _ h => h) (by assumption) (by rfl) ?y23 ?z24
              case y23 =>
               intro w' h1
               have k_ := (hci.out.blk (h1 _ hbw)).1
               try simp only [Nat.zero_mul, Nat.add_zero] at k_
               go_simp
              try simp only [Act.put, zp]
              refine zE 5 #[zT,zT,zT,zT,zT,zT,zF,zF,zF,zF,zF,zF,zF,zF,zF,zF,zF,zF,zF,zF,zF,zF,zF,zF,zF,zF,zF,zF,zF,zF,zF,zF,zF,zF,zF,zF,zF,zF,zF,zF,zF] ?_ rfl ?hy61 ?rest61
              case hy61 => intro w; go_simp; (try with_reducible rfl)
              try simp only [Act.put, zp]
              refine zE 6 #[zT,zT,zT,zT,zT,zT,zT,zF,zF,zF,zF,zF,zF,zF,zF,zF,zF,zF,zF,zF,zF,zF,zF,zF,zF,zF,zF,zF,zF,zF,zF,zF,zF,zF,zF,zF,zF,zF,zF,zF,zF] ?_ rfl ?hy62 ?rest62
              case hy62 => intro w; go_simp; (try with_reducible rfl)
              try simp only [Act.put, zp]
              refine zE 7 #[zT,zT,zT,zT,zT,zT,zT,zT,zF,zF,zF,zF,zF,zF,zF,zF,zF,zF,zF,zF,zF,zF,zF,zF,zF,zF,zF,zF,zF,zF,zF,zF,zF,zF,zF,zF,zF,zF,zF,zF,zF] ?_ rfl ?hy63 ?rest63
              case hy63 => intro w; go_simp; (try with_reducible rfl)
              try simp only [Act.put, zp]
              refine zE 8 #[zT,zT,zT,zT,zT,zT,zT,zT,zT,zF,zF,zF,zF,zF,zF,zF,zF,zF,zF,zF,zF,zF,zF,zF,zF,zF,zF,zF,zF,zF,zF,zF,zF,zF,zF,zF,zF,zF,zF,zF,zF] ?_ rfl ?hy64 ?rest64
              case hy64 => intro w; go_simp; (try with_reducible rfl)
              try simp only [Act.put, zp]
              refine zE 9 #[zT,zT,zT,zT,zT,zT,zT,zT,zT,zT,zF,zF,zF,zF,zF,zF,zF,zF,zF,zF,zF,zF,zF,zF,zF,zF,zF,zF,zF,zF,zF,zF,zF,zF,zF,zF,zF,zF,zF,zF,zF] ?_ rfl ?hy65 ?rest65
              case hy65 => intro w; go_simp; (try with_reducible rfl)
              try simp only [Act.put, zp]
              refine zE 10 #[zT,zT,zT,zT,zT,zT,zT,zT,zT,zT,zT,zF,zF,zF,zF,zF,zF,zF,zF,zF,zF,zF,zF,zF,zF,zF,zF,zF,zF,zF,zF,zF,zF,zF,zF,zF,zF,zF,zF,zF,zF] ?_ rfl ?hy66 ?rest66
              case hy66 => intro w; go_simp; (try with_reducible rfl)
              try simp only [Act.put, zp]
              have kpy25 : Keeps wr v21 := fun p hp => Below.block j22 p hp
              refine readE (i := 11) (L := #[zT,zT,zT,zT,zT,zT,zT,zT,zT,zT,zT,zT,zF,zF,zF,zF,zF,zF,zF,zF,zF,zF,zF,zF,zF,zF,zF,zF,zF,zF,zF,zF,zF,zF,zF,zF,zF,zF,zF,zF,zF]) (v := .int .i64 f.e) rfl (by rfl) (by kernel_rfl) (by kernel_rfl) (by kernel_rfl) (fun _ _ _ h => h) (by assumption) (by rfl) ?y25 ?z26
              case y25 =>
               intro w' h1
               have k_ := (hci.out.blk (h1 _ hbw)).1
               try simp only [Nat.zero_mul, Nat.add_zero] at k_
               go_simp
              try simp only [Act.put, zp]
              refine zE 12 #[zT,zT,zT,zT,zT,zT,zT,zT,zT,zT,zT,zT,zT,zF,zF,zF,zF,zF,zF,zF,zF,zF,zF,zF,zF,zF,zF,zF,zF,zF,zF,zF,zF,zF,zF,zF,zF,zF,zF,zF,zF] ?_ rfl ?hy68 ?rest68
              case hy68 => intro w; go_simp; (try with_reducible rfl)
              try simp only [Act.put, zp]
              refine zE 13 #[zT,zT,zT,zT,zT,zT,zT,zT,zT,zT,zT,zT,zT,zT,zF,zF,zF,zF,zF,zF,zF,zF,zF,zF,zF,zF,zF,zF,zF,zF,zF,zF,zF,zF,zF,zF,zF,zF,zF,zF,zF] ?_ rfl ?hy69 ?rest69
              case hy69 => intro w; go_simp; (try with_reducible rfl)
              try simp only [Act.put, zp]
              refine zE 14 #[zT,zT,zT,zT,zT,zT,zT,zT,zT,zT,zT,zT,zT,zT,zT,zF,zF,zF,zF,zF,zF,zF,zF,zF,zF,zF,zF,zF,zF,zF,zF,zF,zF,zF,zF,zF,zF,zF,zF,zF,zF] ?_ rfl ?hy70 ?rest70
              case hy70 => intro w; go_simp; (try with_reducible rfl)
              try simp only [Act.put, zp]
              refine zE 15 #[zT,zT,zT,zT,zT,zT,zT,zT,zT,zT,zT,zT,zT,zT,zT,zT,zF,zF,zF,zF,zF,zF,zF,zF,zF,zF,zF,zF,zF,zF,zF,zF,zF,zF,zF,zF,zF,zF,zF,zF,zF] ?_ rfl ?hy71 ?rest71
              case hy71 => intro w; go_simp; (try with_reducible rfl)
              try simp only [Act.put, zp]
              refine zE 16 #[zT,zT,zT,zT,zT,zT,zT,zT,zT,zT,zT,zT,zT,zT,zT,zT,zT,zF,zF,zF,zF,zF,zF,zF,zF,zF,zF,zF,zF,zF,zF,zF,zF,zF,zF,zF,zF,zF,zF,zF,zF] ?_ rfl ?hy72 ?rest72
              case hy72 => intro w; go_simp; (try with_reducible rfl)
              try simp only [Act.put, zp]
              refine zE 17 #[zT,zT,zT,zT,zT,zT,zT,zT,zT,zT,zT,zT,zT,zT,zT,zT,zT,zT,zF,zF,zF,zF,zF,zF,zF,zF,zF,zF,zF,zF,zF,zF,zF,zF,zF,zF,zF,zF,zF,zF,zF] ?_ rfl ?hy73 ?rest73
              case hy73 => intro w; go_simp; (try with_reducible rfl)
              try simp only [Act.put, zp]
              refine zE 18 #[zT,zT,zT,zT,zT,zT,zT,zT,zT,zT,zT,zT,zT,zT,zT,zT,zT,zT,zT,zF,zF,zF,zF,zF,zF,zF,zF,zF,zF,zF,zF,zF,zF,zF,zF,zF,zF,zF,zF,zF,zF] ?_ rfl ?hy74 ?rest74
              case hy74 => intro w; go_simp; (try with_reducible rfl)
              try simp only [Act.put, zp]
              have kpy27 : Keeps wr v21 := fun p hp => Below.block j22 p hp
              refine readE (i := 19) (L := #[zT,zT,zT,zT,zT,zT,zT,zT,zT,zT,zT,zT,zT,zT,zT,zT,zT,zT,zT,zT,zF,zF,zF,zF,zF,zF,zF,zF,zF,zF,zF,zF,zF,zF,zF,zF,zF,zF,zF,zF,zF]) (v := .agg #[.bool f.P.M.S.s, .slice f.P.M.S.A f.P.M.S.n f.P.M.S.c, .int .i64 f.P.M.S.e, .bool f.P.M.W.s, .slice f.P.M.W.A f.P.M.W.n f.P.M.W.c, .int .i64 f.P.M.W.e, .bool f.P.M.C.s, .slice f.P.M.C.A f.P.M.C.n f.P.M.C.c, .int .i64 f.P.M.C.e, .bool f.P.M.A.s, .slice f.P.M.A.A f.P.M.A.n f.P.M.A.c, .int .i64 f.P.M.A.e, .bool f.P.h, .int .i64 f.P.mn, .int .i64 f.P.mx, .slice f.P.A f.P.n f.P.c]) rfl (by rfl) (by kernel_rfl) (by kernel_rfl) (by kernel_rfl) (fun _ _ _ h => h) (by assumption) (by rfl) ?y27 ?z28
              case y27 =>
               intro w' h1
               obtain ⟨k_, k0, k1, k2, k3, k4, k5, k6, k7, k8, k9, k10, k11, k12, k13, k14, k15⟩ := hci.out.blk (h1 _ hbw)
               go_simp
              try simp only [Act.put, zp]
              refine stepK (i := 20) (L := #[zT,zT,zT,zT,zT,zT,zT,zT,zT,zT,zT,zT,zT,zT,zT,zT,zT,zT,zT,zT,zT,zF,zF,zF,zF,zF,zF,zF,zF,zF,zF,zF,zF,zF,zF,zF,zF,zF,zF,zF,zF]) rfl (by rfl) (by kernel_rfl) (by rfl) (fun K hK => ?_)
              go_simp
              go_at_call 65
              refine (MayPart_any v21 f.P (PRows.on hri j22) true HM.out).mono ?_
              rintro e' v29 ⟨rfl, j30⟩
              refine hK _ _ ⟨fun _ _ => fun p hp => Below.block (later j22 j30) p hp, ?_⟩
              clear hK K
              try simp only []
              refine zE 21 #[zT,zT,zT,zT,zT,zT,zT,zT,zT,zT,zT,zT,zT,zT,zT,zT,zT,zT,zT,zT,zT,zT,zF,zF,zF,zF,zF,zF,zF,zF,zF,zF,zF,zF,zF,zF,zF,zF,zF,zF,zF] ?_ rfl ?hy77 ?rest77
              case hy77 => intro w; go_simp; (try with_reducible rfl)
              try simp only [Act.put, zp]
              refine zE 22 #[zT,zT,zT,zT,zT,zT,zT,zT,zT,zT,zT,zT,zT,zT,zT,zT,zT,zT,zT,zT,zT,zT,zT,zF,zF,zF,zF,zF,zF,zF,zF,zF,zF,zF,zF,zF,zF,zF,zF,zF,zF] ?_ rfl ?hy78 ?rest78
              case hy78 => intro w; go_simp; (try with_reducible rfl)
              try simp only [Act.put, zp]
              refine zE 23 #[zT,zT,zT,zT,zT,zT,zT,zT,zT,zT,zT,zT,zT,zT,zT,zT,zT,zT,zT,zT,zT,zT,zT,zT,zF,zF,zF,zF,zF,zF,zF,zF,zF,zF,zF,zF,zF,zF,zF,zF,zF] ?_ rfl ?hy79 ?rest79
              case hy79 => intro w; go_simp; (try with_reducible rfl)
              try simp only [Act.put, zp]
              refine zE 24 #[zT,zT,zT,zT,zT,zT,zT,zT,zT,zT,zT,zT,zT,zT,zT,zT,zT,zT,zT,zT,zT,zT,zT,zT,zT,zF,zF,zF,zF,zF,zF,zF,zF,zF,zF,zF,zF,zF,zF,zF,zF] ?_ rfl ?hy80 ?rest80
              case hy80 => intro w; go_simp; (try with_reducible rfl)
              try simp only [Act.put, zp]
              refine zE 25 #[zT,zT,zT,zT,zT,zT,zT,zT,zT,zT,zT,zT,zT,zT,zT,zT,zT,zT,zT,zT,zT,zT,zT,zT,zT,zT,zF,zF,zF,zF,zF,zF,zF,zF,zF,zF,zF,zF,zF,zF,zF] ?_ rfl ?hy81 ?rest81
              case hy81 => intro w; go_simp; (try with_reducible rfl)
              try simp only [Act.put, zp]
              refine zE 26 #[zT,zT,zT,zT,zT,zT,zT,zT,zT,zT,zT,zT,zT,zT,zT,zT,zT,zT,zT,zT,zT,zT,zT,zT,zT,zT,zT,zF,zF,zF,zF,zF,zF,zF,zF,zF,zF,zF,zF,zF,zF] ?_ rfl ?hy82 ?rest82
              case hy82 => intro w; go_simp; (try with_reducible rfl)
              try simp only [Act.put, zp]
              refine skipE (i := 27) (L := #[zT,zT,zT,zT,zT,zT,zT,zT,zT,zT,zT,zT,zT,zT,zT,zT,zT,zT,zT,zT,zT,zT,zT,zT,zT,zT,zT,zT,zF,zF,zF,zF,zF,zF,zF,zF,zF,zF,zF,zF,zF]) rfl (by rfl) (by kernel_rfl) (by kernel_rfl) (by kernel_rfl) (fun _ _ _ h => h) (by rfl) ?_
              try simp only [Act.put, zp]
              refine skipE (i := 28) (L := #[zT,zT,zT,zT,zT,zT,zT,zT,zT,zT,zT,zT,zT,zT,zT,zT,zT,zT,zT,zT,zT,zT,zT,zT,zT,zT,zT,zT,zT,zF,zF,zF,zF,zF,zF,zF,zF,zF,zF,zF,zF]) rfl (by rfl) (by kernel_rfl) (by kernel_rfl) (by kernel_rfl) (fun _ _ _ h => h) (by rfl) ?_
              try simp only [Act.put, zp]
              refine skipE (i := 29) (L := #[zT,zT,zT,zT,zT,zT,zT,zT,zT,zT,zT,zT,zT,zT,zT,zT,zT,zT,zT,zT,zT,zT,zT,zT,zT,zT,zT,zT,zT,zT,zF,zF,zF,zF,zF,zF,zF,zF,zF,zF,zF]) rfl (by rfl) (by kernel_rfl) (by kernel_rfl) (by kernel_rfl) (fun _ _ _ h => h) (by rfl) ?_
              try simp only [Act.put, zp]
              refine skipE (i := 30) (L := #[zT,zT,zT,zT,zT,zT,zT,zT,zT,zT,zT,zT,zT,zT,zT,zT,zT,zT,zT,zT,zT,zT,zT,zT,zT,zT,zT,zT,zT,zT,zT,zF,zF,zF,zF,zF,zF,zF,zF,zF,zF]) rfl (by rfl) (by kernel_rfl) (by kernel_rfl) (by kernel_rfl) (fun _ _ _ h => h) (by rfl) ?_
              try simp only [Act.put, zp]
              refine skipE (i := 31) (L := #[zT,zT,zT,zT,zT,zT,zT,zT,zT,zT,zT,zT,zT,zT,zT,zT,zT,zT,zT,zT,zT,zT,zT,zT,zT,zT,zT,zT,zT,zT,zT,zT,zF,zF,zF,zF,zF,zF,zF,zF,zF]) rfl (by rfl) (by kernel_rfl) (by kernel_rfl) (by kernel_rfl) (fun _ _ _ h => h) (by rfl) ?_
              try simp only [Act.put, zp]
              refine skipE (i := 32) (L := #[zT,zT,zT,zT,zT,zT,zT,zT,zT,zT,zT,zT,zT,zT,zT,zT,zT,zT,zT,zT,zT,zT,zT,zT,zT,zT,zT,zT,zT,zT,zT,zT,zT,zF,zF,zF,zF,zF,zF,zF,zF]) rfl (by rfl) (by kernel_rfl) (by kernel_rfl) (by kernel_rfl) (fun _ _ _ h => h) (by rfl) ?_
              try simp only [Act.put, zp]
              refine skipE (i := 33) (L := #[zT,zT,zT,zT,zT,zT,zT,zT,zT,zT,zT,zT,zT,zT,zT,zT,zT,zT,zT,zT,zT,zT,zT,zT,zT,zT,zT,zT,zT,zT,zT,zT,zT,zT,zF,zF,zF,zF,zF,zF,zF]) rfl (by rfl) (by kernel_rfl) (by kernel_rfl) (by kernel_rfl) (fun _ _ _ h => h) (by rfl) ?_
              try simp only [Act.put, zp]
              refine skipE (i := 34) (L := #[zT,zT,zT,zT,zT,zT,zT,zT,zT,zT,zT,zT,zT,zT,zT,zT,zT,zT,zT,zT,zT,zT,zT,zT,zT,zT,zT,zT,zT,zT,zT,zT,zT,zT,zT,zF,zF,zF,zF,zF,zF]) rfl (by rfl) (by kernel_rfl) (by kernel_rfl) (by kernel_rfl) (fun _ _ _ h => h) (by rfl) ?_
              try simp only [Act.put, zp]
              refine skipE (i := 35) (L := #[zT,zT,zT,zT,zT,zT,zT,zT,zT,zT,zT,zT,zT,zT,zT,zT,zT,zT,zT,zT,zT,zT,zT,zT,zT,zT,zT,zT,zT,zT,zT,zT,zT,zT,zT,zT,zF,zF,zF,zF,zF]) rfl (by rfl) (by kernel_rfl) (by kernel_rfl) (by kernel_rfl) (fun _ _ _ h => h) (by rfl) ?_
              try simp only [Act.put, zp]
              refine skipE (i := 36) (L := #[zT,zT,zT,zT,zT,zT,zT,zT,zT,zT,zT,zT,zT,zT,zT,zT,zT,zT,zT,zT,zT,zT,zT,zT,zT,zT,zT,zT,zT,zT,zT,zT,zT,zT,zT,zT,zT,zF,zF,zF,zF]) rfl (by rfl) (by kernel_rfl) (by kernel_rfl) (by kernel_rfl) (fun _ _ _ h => h) (by rfl) ?_
              try simp only [Act.put, zp]
              refine skipE (i := 37) (L := #[zT,zT,zT,zT,zT,zT,zT,zT,zT,zT,zT,zT,zT,zT,zT,zT,zT,zT,zT,zT,zT,zT,zT,zT,zT,zT,zT,zT,zT,zT,zT,zT,zT,zT,zT,zT,zT,zT,zF,zF,zF]) rfl (by rfl) (by kernel_rfl) (by kernel_rfl) (by kernel_rfl) (fun _ _ _ h => h) (by rfl) ?_
              try simp only [Act.put, zp]
              refine skipE (i := 38) (L := #[zT,zT,zT,zT,zT,zT,zT,zT,zT,zT,zT,zT,zT,zT,zT,zT,zT,zT,zT,zT,zT,zT,zT,zT,zT,zT,zT,zT,zT,zT,zT,zT,zT,zT,zT,zT,zT,zT,zT,zF,zF]) rfl (by rfl) (by kernel_rfl) (by kernel_rfl) (by kernel_rfl) (fun _ _ _ h => h) (by rfl) ?_
              try simp only [Act.put, zp]
              refine zE 39 #[zT,zT,zT,zT,zT,zT,zT,zT,zT,zT,zT,zT,zT,zT,zT,zT,zT,zT,zT,zT,zT,zT,zT,zT,zT,zT,zT,zT,zT,zT,zT,zT,zT,zT,zT,zT,zT,zT,zT,zT,zF] ?_ rfl ?hy83 ?rest83
              case hy83 => intro w; go_simp; (try with_reducible rfl)
              try simp only [Act.put, zp]
              refine zE 40 #[zT,zT,zT,zT,zT,zT,zT,zT,zT,zT,zT,zT,zT,zT,zT,zT,zT,zT,zT,zT,zT,zT,zT,zT,zT,zT,zT,zT,zT,zT,zT,zT,zT,zT,zT,zT,zT,zT,zT,zT,zT] ?_ rfl ?hy84 ?rest84
              case hy84 => intro w; go_simp; (try with_reducible rfl)
              try simp only [Act.put, zp]
              refine doneE (by kernel_rfl) ?_ _
              have hbz := hb.trans (((later j22 j30)).mono lw)
              clear hmy2 HM
              go_wp2
              go_roundw
              case rel => exact ⟨0 + 1, f.e, by first | rfl | (congr 1; omega) | go_num, by omega, hbz, hmy3, Lib.hid fun h _ => (by simp only [Nat.add_sub_cancel]; rw [HF.out]), Lib.hid ⟨fun h => absurd h (Nat.succ_ne_zero _), fun _ => by omega⟩⟩
              case measure => first | (simp [intOf]; done) | (simp [intOf]; omega)
            · skip
              have a4 : (0 : Int) < (i : Int) := by omega
              have hp2 : i - 1 < fs.length := by omega
              obtain ⟨p, hp⟩ : ∃ p, fs[i - 1] = p := ⟨_, rfl⟩
              have hpi := Lib.hid (hcp.out hp2)
              rw [hp] at hpi
              have hpe : Hid (p.e = last) := Lib.hid (by rw [← hp]; exact hla.out hp2 a3)
              have hwm : IntKind.i64.wrap ((i : Int) - 1) = ((i - 1 : Nat) : Int) := by rw [IntKind.wrap_i64]; omega
              have hil : i - 1 < n := by omega
              clear hp
              by_cases a5 : f.e ≤ p.e
              · skip
                have hk' : k = 8 := by
                 rw [← HK.out]
                 exact checkF_no c1 (by rw [hmy2.out, decide_eq_false (by have := hpe.out; omega)]; rfl)
                subst hk'
                clear HK hmy2
                go_wp2_with fail
                try clear hw
                refine region_E (Keeps wr) [] (m := 41) (L := #[zF,zF,zF,zF,zF,zF,zF,zF,zF,zF,zF,zF,zF,zF,zF,zF,zF,zF,zF,zF,zF,zF,zF,zF,zF,zF,zF,zF,zF,zF,zF,zF,zF,zF,zF,zF,zF,zF,zF,zF,zF]) (by kernel_rfl) (by rfl) (by rfl) ?_
                have j32 : Below wr.heap.size wr wr.drew := (Below.refl _ _).drew
                generalize wr.drew = v31 at *
                refine zE 0 #[zT,zF,zF,zF,zF,zF,zF,zF,zF,zF,zF,zF,zF,zF,zF,zF,zF,zF,zF,zF,zF,zF,zF,zF,zF,zF,zF,zF,zF,zF,zF,zF,zF,zF,zF,zF,zF,zF,zF,zF,zF] ?_ rfl ?hy85 ?rest85
                case hy85 => intro w; go_simp; (try with_reducible rfl)
                try simp only [Act.put, zp]
                refine zE 1 #[zT,zT,zF,zF,zF,zF,zF,zF,zF,zF,zF,zF,zF,zF,zF,zF,zF,zF,zF,zF,zF,zF,zF,zF,zF,zF,zF,zF,zF,zF,zF,zF,zF,zF,zF,zF,zF,zF,zF,zF,zF] ?_ rfl ?hy86 ?rest86
                case hy86 => intro w; go_simp; (try with_reducible rfl)
                try simp only [Act.put, zp]
                refine zE 2 #[zT,zT,zT,zF,zF,zF,zF,zF,zF,zF,zF,zF,zF,zF,zF,zF,zF,zF,zF,zF,zF,zF,zF,zF,zF,zF,zF,zF,zF,zF,zF,zF,zF,zF,zF,zF,zF,zF,zF,zF,zF] ?_ rfl ?hy87 ?rest87
                case hy87 => intro w; go_simp; (try with_reducible rfl)
                try simp only [Act.put, zp]
                refine zE 3 #[zT,zT,zT,zT,zF,zF,zF,zF,zF,zF,zF,zF,zF,zF,zF,zF,zF,zF,zF,zF,zF,zF,zF,zF,zF,zF,zF,zF,zF,zF,zF,zF,zF,zF,zF,zF,zF,zF,zF,zF,zF] ?_ rfl ?hy88 ?rest88
                case hy88 => intro w; go_simp; (try with_reducible rfl)
                try simp only [Act.put, zp]
                have kpy33 : Keeps wr v31 := fun p hp => Below.block j32 p hp
                refine readE (i := 4) (L := #[zT,zT,zT,zT,zT,zF,zF,zF,zF,zF,zF,zF,zF,zF,zF,zF,zF,zF,zF,zF,zF,zF,zF,zF,zF,zF,zF,zF,zF,zF,zF,zF,zF,zF,zF,zF,zF,zF,zF,zF,zF]) (v := .int .i64 f.e) rfl (by rfl) (by kernel_rfl) (by kernel_rfl) (by kernel_rfl) (fun _ _ _ h => h) (by assumption) (by rfl) ?y33 ?z34
                case y33 =>
                 intro w' h1
                 have k_ := (hci.out.blk (h1 _ hbw)).1
                 try simp only [Nat.zero_mul, Nat.add_zero] at k_
                 go_simp
                try simp only [Act.put, zp]
                refine zE 5 #[zT,zT,zT,zT,zT,zT,zF,zF,zF,zF,zF,zF,zF,zF,zF,zF,zF,zF,zF,zF,zF,zF,zF,zF,zF,zF,zF,zF,zF,zF,zF,zF,zF,zF,zF,zF,zF,zF,zF,zF,zF] ?_ rfl ?hy90 ?rest90
                case hy90 => intro w; go_simp; (try with_reducible rfl)
                try simp only [Act.put, zp]
                refine zE 6 #[zT,zT,zT,zT,zT,zT,zT,zF,zF,zF,zF,zF,zF,zF,zF,zF,zF,zF,zF,zF,zF,zF,zF,zF,zF,zF,zF,zF,zF,zF,zF,zF,zF,zF,zF,zF,zF,zF,zF,zF,zF] ?_ rfl ?hy91 ?rest91
                case hy91 => intro w; go_simp; (try with_reducible rfl)
                try simp only [Act.put, zp]
                refine zE 7 #[zT,zT,zT,zT,zT,zT,zT,zT,zF,zF,zF,zF,zF,zF,zF,zF,zF,zF,zF,zF,zF,zF,zF,zF,zF,zF,zF,zF,zF,zF,zF,zF,zF,zF,zF,zF,zF,zF,zF,zF,zF] ?_ rfl ?hy92 ?rest92
                case hy92 => intro w; go_simp; (try with_reducible rfl)
                try simp only [Act.put, zp]
                refine zE 8 #[zT,zT,zT,zT,zT,zT,zT,zT,zT,zF,zF,zF,zF,zF,zF,zF,zF,zF,zF,zF,zF,zF,zF,zF,zF,zF,zF,zF,zF,zF,zF,zF,zF,zF,zF,zF,zF,zF,zF,zF,zF] ?_ rfl ?hy93 ?rest93
                case hy93 => intro w; go_simp; (try with_reducible rfl)
                try simp only [Act.put, zp]
                refine zE 9 #[zT,zT,zT,zT,zT,zT,zT,zT,zT,zT,zF,zF,zF,zF,zF,zF,zF,zF,zF,zF,zF,zF,zF,zF,zF,zF,zF,zF,zF,zF,zF,zF,zF,zF,zF,zF,zF,zF,zF,zF,zF] ?_ rfl ?hy94 ?rest94
                case hy94 => intro w; go_simp; (try with_reducible rfl)
                try simp only [Act.put, zp]
                refine zE 10 #[zT,zT,zT,zT,zT,zT,zT,zT,zT,zT,zT,zF,zF,zF,zF,zF,zF,zF,zF,zF,zF,zF,zF,zF,zF,zF,zF,zF,zF,zF,zF,zF,zF,zF,zF,zF,zF,zF,zF,zF,zF] ?_ rfl ?hy95 ?rest95
                case hy95 => intro w; go_simp; (try with_reducible rfl)
                try simp only [Act.put, zp]
                have kpy35 : Keeps wr v31 := fun p hp => Below.block j32 p hp
                refine readE (i := 11) (L := #[zT,zT,zT,zT,zT,zT,zT,zT,zT,zT,zT,zT,zF,zF,zF,zF,zF,zF,zF,zF,zF,zF,zF,zF,zF,zF,zF,zF,zF,zF,zF,zF,zF,zF,zF,zF,zF,zF,zF,zF,zF]) (v := .int .i64 f.e) rfl (by rfl) (by kernel_rfl) (by kernel_rfl) (by kernel_rfl) (fun _ _ _ h => h) (by assumption) (by rfl) ?y35 ?z36
                case y35 =>
                 intro w' h1
                 have k_ := (hci.out.blk (h1 _ hbw)).1
                 try simp only [Nat.zero_mul, Nat.add_zero] at k_
                 go_simp
                try simp only [Act.put, zp]
                refine zE 12 #[zT,zT,zT,zT,zT,zT,zT,zT,zT,zT,zT,zT,zT,zF,zF,zF,zF,zF,zF,zF,zF,zF,zF,zF,zF,zF,zF,zF,zF,zF,zF,zF,zF,zF,zF,zF,zF,zF,zF,zF,zF] ?_ rfl ?hy97 ?rest97
                case hy97 => intro w; go_simp; (try with_reducible rfl)
                try simp only [Act.put, zp]
                refine zE 13 #[zT,zT,zT,zT,zT,zT,zT,zT,zT,zT,zT,zT,zT,zT,zF,zF,zF,zF,zF,zF,zF,zF,zF,zF,zF,zF,zF,zF,zF,zF,zF,zF,zF,zF,zF,zF,zF,zF,zF,zF,zF] ?_ rfl ?hy98 ?rest98
                case hy98 => intro w; go_simp; (try with_reducible rfl)
                try simp only [Act.put, zp]
                refine zE 14 #[zT,zT,zT,zT,zT,zT,zT,zT,zT,zT,zT,zT,zT,zT,zT,zF,zF,zF,zF,zF,zF,zF,zF,zF,zF,zF,zF,zF,zF,zF,zF,zF,zF,zF,zF,zF,zF,zF,zF,zF,zF] ?_ rfl ?hy99 ?rest99
                case hy99 => intro w; go_simp; (try with_reducible rfl)
                try simp only [Act.put, zp]
                refine zE 15 #[zT,zT,zT,zT,zT,zT,zT,zT,zT,zT,zT,zT,zT,zT,zT,zT,zF,zF,zF,zF,zF,zF,zF,zF,zF,zF,zF,zF,zF,zF,zF,zF,zF,zF,zF,zF,zF,zF,zF,zF,zF] ?_ rfl ?hy100 ?rest100
                case hy100 => intro w; go_simp; (try with_reducible rfl)
                try simp only [Act.put, zp]
                refine zE 16 #[zT,zT,zT,zT,zT,zT,zT,zT,zT,zT,zT,zT,zT,zT,zT,zT,zT,zF,zF,zF,zF,zF,zF,zF,zF,zF,zF,zF,zF,zF,zF,zF,zF,zF,zF,zF,zF,zF,zF,zF,zF] ?_ rfl ?hy101 ?rest101
                case hy101 => intro w; go_simp; (try with_reducible rfl)
                try simp only [Act.put, zp]
                refine zE 17 #[zT,zT,zT,zT,zT,zT,zT,zT,zT,zT,zT,zT,zT,zT,zT,zT,zT,zT,zF,zF,zF,zF,zF,zF,zF,zF,zF,zF,zF,zF,zF,zF,zF,zF,zF,zF,zF,zF,zF,zF,zF] ?_ rfl ?hy102 ?rest102
                case hy102 => intro w; go_simp; (try with_reducible rfl)
                try simp only [Act.put, zp]
                refine zE 18 #[zT,zT,zT,zT,zT,zT,zT,zT,zT,zT,zT,zT,zT,zT,zT,zT,zT,zT,zT,zF,zF,zF,zF,zF,zF,zF,zF,zF,zF,zF,zF,zF,zF,zF,zF,zF,zF,zF,zF,zF,zF] ?_ rfl ?hy103 ?rest103
                case hy103 => intro w; go_simp; (try with_reducible rfl)
                try simp only [Act.put, zp]
                have kpy37 : Keeps wr v31 := fun p hp => Below.block j32 p hp
                refine readE (i := 19) (L := #[zT,zT,zT,zT,zT,zT,zT,zT,zT,zT,zT,zT,zT,zT,zT,zT,zT,zT,zT,zT,zF,zF,zF,zF,zF,zF,zF,zF,zF,zF,zF,zF,zF,zF,zF,zF,zF,zF,zF,zF,zF]) (v := .agg #[.bool f.P.M.S.s, .slice f.P.M.S.A f.P.M.S.n f.P.M.S.c, .int .i64 f.P.M.S.e, .bool f.P.M.W.s, .slice f.P.M.W.A f.P.M.W.n f.P.M.W.c, .int .i64 f.P.M.W.e, .bool f.P.M.C.s, .slice f.P.M.C.A f.P.M.C.n f.P.M.C.c, .int .i64 f.P.M.C.e, .bool f.P.M.A.s, .slice f.P.M.A.A f.P.M.A.n f.P.M.A.c, .int .i64 f.P.M.A.e, .bool f.P.h, .int .i64 f.P.mn, .int .i64 f.P.mx, .slice f.P.A f.P.n f.P.c]) rfl (by rfl) (by kernel_rfl) (by kernel_rfl) (by kernel_rfl) (fun _ _ _ h => h) (by assumption) (by rfl) ?y37 ?z38
                case y37 =>
                 intro w' h1
                 obtain ⟨k_, k0, k1, k2, k3, k4, k5, k6, k7, k8, k9, k10, k11, k12, k13, k14, k15⟩ := hci.out.blk (h1 _ hbw)
                 go_simp
                try simp only [Act.put, zp]
                refine stepK (i := 20) (L := #[zT,zT,zT,zT,zT,zT,zT,zT,zT,zT,zT,zT,zT,zT,zT,zT,zT,zT,zT,zT,zT,zF,zF,zF,zF,zF,zF,zF,zF,zF,zF,zF,zF,zF,zF,zF,zF,zF,zF,zF,zF]) rfl (by rfl) (by kernel_rfl) (by rfl) (fun K hK => ?_)
                go_simp
                go_at_call 65
                refine (MayPart_any v31 f.P (PRows.on hri j32) true HM.out).mono ?_
                rintro e' v39 ⟨rfl, j40⟩
                refine hK _ _ ⟨fun _ _ => fun p hp => Below.block (later j32 j40) p hp, ?_⟩
                clear hK K
                try simp only []
                refine zE 21 #[zT,zT,zT,zT,zT,zT,zT,zT,zT,zT,zT,zT,zT,zT,zT,zT,zT,zT,zT,zT,zT,zT,zF,zF,zF,zF,zF,zF,zF,zF,zF,zF,zF,zF,zF,zF,zF,zF,zF,zF,zF] ?_ rfl ?hy106 ?rest106
                case hy106 => intro w; go_simp; (try with_reducible rfl)
                try simp only [Act.put, zp]
                refine zE 22 #[zT,zT,zT,zT,zT,zT,zT,zT,zT,zT,zT,zT,zT,zT,zT,zT,zT,zT,zT,zT,zT,zT,zT,zF,zF,zF,zF,zF,zF,zF,zF,zF,zF,zF,zF,zF,zF,zF,zF,zF,zF] ?_ rfl ?hy107 ?rest107
                case hy107 => intro w; go_simp; (try with_reducible rfl)
                try simp only [Act.put, zp]
                refine zE 23 #[zT,zT,zT,zT,zT,zT,zT,zT,zT,zT,zT,zT,zT,zT,zT,zT,zT,zT,zT,zT,zT,zT,zT,zT,zF,zF,zF,zF,zF,zF,zF,zF,zF,zF,zF,zF,zF,zF,zF,zF,zF] ?_ rfl ?hy108 ?rest108
                case hy108 => intro w; go_simp; (try with_reducible rfl)
                try simp only [Act.put, zp]
                refine zE 24 #[zT,zT,zT,zT,zT,zT,zT,zT,zT,zT,zT,zT,zT,zT,zT,zT,zT,zT,zT,zT,zT,zT,zT,zT,zT,zF,zF,zF,zF,zF,zF,zF,zF,zF,zF,zF,zF,zF,zF,zF,zF] ?_ rfl ?hy109 ?rest109
                case hy109 => intro w; go_simp; (try with_reducible rfl)
                try simp only [Act.put, zp]
                refine zE 25 #[zT,zT,zT,zT,zT,zT,zT,zT,zT,zT,zT,zT,zT,zT,zT,zT,zT,zT,zT,zT,zT,zT,zT,zT,zT,zT,zF,zF,zF,zF,zF,zF,zF,zF,zF,zF,zF,zF,zF,zF,zF] ?_ rfl ?hy110 ?rest110
                case hy110 => intro w; go_simp; (try with_reducible rfl)
                try simp only [Act.put, zp]
                refine zE 26 #[zT,zT,zT,zT,zT,zT,zT,zT,zT,zT,zT,zT,zT,zT,zT,zT,zT,zT,zT,zT,zT,zT,zT,zT,zT,zT,zT,zF,zF,zF,zF,zF,zF,zF,zF,zF,zF,zF,zF,zF,zF] ?_ rfl ?hy111 ?rest111
                case hy111 => intro w; go_simp; (try with_reducible rfl)
                try simp only [Act.put, zp]
                refine zE 27 #[zT,zT,zT,zT,zT,zT,zT,zT,zT,zT,zT,zT,zT,zT,zT,zT,zT,zT,zT,zT,zT,zT,zT,zT,zT,zT,zT,zT,zF,zF,zF,zF,zF,zF,zF,zF,zF,zF,zF,zF,zF] ?_ rfl ?hy112 ?rest112
                case hy112 => intro w; go_simp; (try with_reducible rfl)
                try simp only [Act.put, zp]
                refine zE 28 #[zT,zT,zT,zT,zT,zT,zT,zT,zT,zT,zT,zT,zT,zT,zT,zT,zT,zT,zT,zT,zT,zT,zT,zT,zT,zT,zT,zT,zT,zF,zF,zF,zF,zF,zF,zF,zF,zF,zF,zF,zF] ?_ rfl ?hy113 ?rest113
                case hy113 => intro w; go_simp; (try with_reducible rfl)
                try simp only [Act.put, zp]
                refine zE 29 #[zT,zT,zT,zT,zT,zT,zT,zT,zT,zT,zT,zT,zT,zT,zT,zT,zT,zT,zT,zT,zT,zT,zT,zT,zT,zT,zT,zT,zT,zT,zF,zF,zF,zF,zF,zF,zF,zF,zF,zF,zF] ?_ rfl ?hy114 ?rest114
                case hy114 => intro w; go_simp; (try with_reducible rfl)
                try simp only [Act.put, zp]
                refine zE 30 #[zT,zT,zT,zT,zT,zT,zT,zT,zT,zT,zT,zT,zT,zT,zT,zT,zT,zT,zT,zT,zT,zT,zT,zT,zT,zT,zT,zT,zT,zT,zT,zF,zF,zF,zF,zF,zF,zF,zF,zF,zF] ?_ rfl ?hy115 ?rest115
                case hy115 => intro w; go_simp; (try with_reducible rfl)
                try simp only [Act.put, zp]
                have kpy41 : Keeps wr v39 := fun p hp => Below.block (later j32 j40) p hp
                refine readE (i := 31) (L := #[zT,zT,zT,zT,zT,zT,zT,zT,zT,zT,zT,zT,zT,zT,zT,zT,zT,zT,zT,zT,zT,zT,zT,zT,zT,zT,zT,zT,zT,zT,zT,zT,zF,zF,zF,zF,zF,zF,zF,zF,zF]) (v := .int .i64 f.e) rfl (by rfl) (by kernel_rfl) (by kernel_rfl) (by kernel_rfl) (fun _ _ _ h => h) (by assumption) (by rfl) ?y41 ?z42
                case y41 =>
                 intro w' h1
                 have k_ := (hci.out.blk (h1 _ hbw)).1
                 try simp only [Nat.zero_mul, Nat.add_zero] at k_
                 go_simp
                try simp only [Act.put, zp]
                refine zE 32 #[zT,zT,zT,zT,zT,zT,zT,zT,zT,zT,zT,zT,zT,zT,zT,zT,zT,zT,zT,zT,zT,zT,zT,zT,zT,zT,zT,zT,zT,zT,zT,zT,zT,zF,zF,zF,zF,zF,zF,zF,zF] ?_ rfl ?hy117 ?rest117
                case hy117 => intro w; go_simp; (try with_reducible rfl)
                try simp only [Act.put, zp]
                refine zE 33 #[zT,zT,zT,zT,zT,zT,zT,zT,zT,zT,zT,zT,zT,zT,zT,zT,zT,zT,zT,zT,zT,zT,zT,zT,zT,zT,zT,zT,zT,zT,zT,zT,zT,zT,zF,zF,zF,zF,zF,zF,zF] ?_ rfl ?hy118 ?rest118
                case hy118 => intro w; go_simp; (try with_reducible rfl)
                try simp only [Act.put, zp]
                refine zE 34 #[zT,zT,zT,zT,zT,zT,zT,zT,zT,zT,zT,zT,zT,zT,zT,zT,zT,zT,zT,zT,zT,zT,zT,zT,zT,zT,zT,zT,zT,zT,zT,zT,zT,zT,zT,zF,zF,zF,zF,zF,zF] ?_ rfl ?hy119 ?rest119
                case hy119 => intro w; go_simp; (try with_reducible rfl)
                try simp only [Act.put, zp]
                refine zE 35 #[zT,zT,zT,zT,zT,zT,zT,zT,zT,zT,zT,zT,zT,zT,zT,zT,zT,zT,zT,zT,zT,zT,zT,zT,zT,zT,zT,zT,zT,zT,zT,zT,zT,zT,zT,zT,zF,zF,zF,zF,zF] ?_ rfl ?hy120 ?rest120
                case hy120 => intro w; go_simp; (try with_reducible rfl)
                try simp only [Act.put, zp]
                refine zE 36 #[zT,zT,zT,zT,zT,zT,zT,zT,zT,zT,zT,zT,zT,zT,zT,zT,zT,zT,zT,zT,zT,zT,zT,zT,zT,zT,zT,zT,zT,zT,zT,zT,zT,zT,zT,zT,zT,zF,zF,zF,zF] ?_ rfl ?hy121 ?rest121
                case hy121 => intro w; go_simp; (try with_reducible rfl)
                try simp only [Act.put, zp]
                have kpy43 : Keeps wr v39 := fun p hp => Below.block (later j32 j40) p hp
                refine readE (i := 37) (L := #[zT,zT,zT,zT,zT,zT,zT,zT,zT,zT,zT,zT,zT,zT,zT,zT,zT,zT,zT,zT,zT,zT,zT,zT,zT,zT,zT,zT,zT,zT,zT,zT,zT,zT,zT,zT,zT,zT,zF,zF,zF]) (v := .int .i64 p.e) rfl (by rfl) (by kernel_rfl) (by kernel_rfl) (by kernel_rfl) (fun _ _ _ h => h) (by assumption) (by rfl) ?y43 ?z44
                case y43 =>
                 intro w' h1
                 have k_ := (hpi.out.blk (h1 _ hbw)).1
                 go_simp
                try simp only [Act.put, zp]
                refine zE 38 #[zT,zT,zT,zT,zT,zT,zT,zT,zT,zT,zT,zT,zT,zT,zT,zT,zT,zT,zT,zT,zT,zT,zT,zT,zT,zT,zT,zT,zT,zT,zT,zT,zT,zT,zT,zT,zT,zT,zT,zF,zF] ?_ rfl ?hy123 ?rest123
                case hy123 => intro w; go_simp; (try with_reducible rfl)
                try simp only [Act.put, zp]
                refine zE 39 #[zT,zT,zT,zT,zT,zT,zT,zT,zT,zT,zT,zT,zT,zT,zT,zT,zT,zT,zT,zT,zT,zT,zT,zT,zT,zT,zT,zT,zT,zT,zT,zT,zT,zT,zT,zT,zT,zT,zT,zT,zF] ?_ rfl ?hy124 ?rest124
                case hy124 => intro w; go_simp; (try with_reducible rfl)
                try simp only [Act.put, zp]
                refine zE 40 #[zT,zT,zT,zT,zT,zT,zT,zT,zT,zT,zT,zT,zT,zT,zT,zT,zT,zT,zT,zT,zT,zT,zT,zT,zT,zT,zT,zT,zT,zT,zT,zT,zT,zT,zT,zT,zT,zT,zT,zT,zT] ?_ rfl ?hy125 ?rest125
                case hy125 => intro w; go_simp; (try with_reducible rfl)
                try simp only [Act.put, zp]
                refine doneE (by kernel_rfl) ?_ _
                have hbz := hb.trans (((later j32 j40)).mono lw)
                go_wp2
                go_ret
                exact ⟨rfl, hbz⟩
              · skip
                have d5 : decide (f.e ≤ p.e) = false := decide_eq_false a5
                have hmy3 : Hid (mayF (-1) fs = mayF f.e (fs.drop (i + 1))) := Lib.hid (by rw [hmy2.out, HM.out, decide_eq_true (by have := hpe.out; omega)]; simp)
                go_wp2_with fail
                try clear hw
                refine region_E (Keeps wr) [] (m := 41) (L := #[zF,zF,zF,zF,zF,zF,zF,zF,zF,zF,zF,zF,zF,zF,zF,zF,zF,zF,zF,zF,zF,zF,zF,zF,zF,zF,zF,zF,zF,zF,zF,zF,zF,zF,zF,zF,zF,zF,zF,zF,zF]) (by kernel_rfl) (by rfl) (by rfl) ?_
                have j46 : Below wr.heap.size wr wr.drew := (Below.refl _ _).drew
                generalize wr.drew = v45 at *
                refine zE 0 #[zT,zF,zF,zF,zF,zF,zF,zF,zF,zF,zF,zF,zF,zF,zF,zF,zF,zF,zF,zF,zF,zF,zF,zF,zF,zF,zF,zF,zF,zF,zF,zF,zF,zF,zF,zF,zF,zF,zF,zF,zF] ?_ rfl ?hy126 ?rest126
                case hy126 => intro w; go_simp; (try with_reducible rfl)
                try simp only [Act.put, zp]
                refine zE 1 #[zT,zT,zF,zF,zF,zF,zF,zF,zF,zF,zF,zF,zF,zF,zF,zF,zF,zF,zF,zF,zF,zF,zF,zF,zF,zF,zF,zF,zF,zF,zF,zF,zF,zF,zF,zF,zF,zF,zF,zF,zF] ?_ rfl ?hy127 ?rest127
                case hy127 => intro w; go_simp; (try with_reducible rfl)
                try simp only [Act.put, zp]
                refine zE 2 #[zT,zT,zT,zF,zF,zF,zF,zF,zF,zF,zF,zF,zF,zF,zF,zF,zF,zF,zF,zF,zF,zF,zF,zF,zF,zF,zF,zF,zF,zF,zF,zF,zF,zF,zF,zF,zF,zF,zF,zF,zF] ?_ rfl ?hy128 ?rest128
                case hy128 => intro w; go_simp; (try with_reducible rfl)
                try simp only [Act.put, zp]
                refine zE 3 #[zT,zT,zT,zT,zF,zF,zF,zF,zF,zF,zF,zF,zF,zF,zF,zF,zF,zF,zF,zF,zF,zF,zF,zF,zF,zF,zF,zF,zF,zF,zF,zF,zF,zF,zF,zF,zF,zF,zF,zF,zF] ?_ rfl ?hy129 ?rest129
                case hy129 => intro w; go_simp; (try with_reducible rfl)
                try simp only [Act.put, zp]
                have kpy47 : Keeps wr v45 := fun p hp => Below.block j46 p hp
                refine readE (i := 4) (L := #[zT,zT,zT,zT,zT,zF,zF,zF,zF,zF,zF,zF,zF,zF,zF,zF,zF,zF,zF,zF,zF,zF,zF,zF,zF,zF,zF,zF,zF,zF,zF,zF,zF,zF,zF,zF,zF,zF,zF,zF,zF]) (v := .int .i64 f.e) rfl (by rfl) (by kernel_rfl) (by kernel_rfl) (by kernel_rfl) (fun _ _ _ h => h) (by assumption) (by rfl) ?y47 ?z48
                case y47 =>
                 intro w' h1
                 have k_ := (hci.out.blk (h1 _ hbw)).1
                 try simp only [Nat.zero_mul, Nat.add_zero] at k_
                 go_simp
                try simp only [Act.put, zp]
                refine zE 5 #[zT,zT,zT,zT,zT,zT,zF,zF,zF,zF,zF,zF,zF,zF,zF,zF,zF,zF,zF,zF,zF,zF,zF,zF,zF,zF,zF,zF,zF,zF,zF,zF,zF,zF,zF,zF,zF,zF,zF,zF,zF] ?_ rfl ?hy131 ?rest131
                case hy131 => intro w; go_simp; (try with_reducible rfl)
                try simp only [Act.put, zp]
                refine zE 6 #[zT,zT,zT,zT,zT,zT,zT,zF,zF,zF,zF,zF,zF,zF,zF,zF,zF,zF,zF,zF,zF,zF,zF,zF,zF,zF,zF,zF,zF,zF,zF,zF,zF,zF,zF,zF,zF,zF,zF,zF,zF] ?_ rfl ?hy132 ?rest132
                case hy132 => intro w; go_simp; (try with_reducible rfl)
                try simp only [Act.put, zp]
                refine zE 7 #[zT,zT,zT,zT,zT,zT,zT,zT,zF,zF,zF,zF,zF,zF,zF,zF,zF,zF,zF,zF,zF,zF,zF,zF,zF,zF,zF,zF,zF,zF,zF,zF,zF,zF,zF,zF,zF,zF,zF,zF,zF] ?_ rfl ?hy133 ?rest133
                case hy133 => intro w; go_simp; (try with_reducible rfl)
                try simp only [Act.put, zp]
                refine zE 8 #[zT,zT,zT,zT,zT,zT,zT,zT,zT,zF,zF,zF,zF,zF,zF,zF,zF,zF,zF,zF,zF,zF,zF,zF,zF,zF,zF,zF,zF,zF,zF,zF,zF,zF,zF,zF,zF,zF,zF,zF,zF] ?_ rfl ?hy134 ?rest134
                case hy134 => intro w; go_simp; (try with_reducible rfl)
                try simp only [Act.put, zp]
                refine zE 9 #[zT,zT,zT,zT,zT,zT,zT,zT,zT,zT,zF,zF,zF,zF,zF,zF,zF,zF,zF,zF,zF,zF,zF,zF,zF,zF,zF,zF,zF,zF,zF,zF,zF,zF,zF,zF,zF,zF,zF,zF,zF] ?_ rfl ?hy135 ?rest135
                case hy135 => intro w; go_simp; (try with_reducible rfl)
                try simp only [Act.put, zp]
                refine zE 10 #[zT,zT,zT,zT,zT,zT,zT,zT,zT,zT,zT,zF,zF,zF,zF,zF,zF,zF,zF,zF,zF,zF,zF,zF,zF,zF,zF,zF,zF,zF,zF,zF,zF,zF,zF,zF,zF,zF,zF,zF,zF] ?_ rfl ?hy136 ?rest136
                case hy136 => intro w; go_simp; (try with_reducible rfl)
                try simp only [Act.put, zp]
                have kpy49 : Keeps wr v45 := fun p hp => Below.block j46 p hp
                refine readE (i := 11) (L := #[zT,zT,zT,zT,zT,zT,zT,zT,zT,zT,zT,zT,zF,zF,zF,zF,zF,zF,zF,zF,zF,zF,zF,zF,zF,zF,zF,zF,zF,zF,zF,zF,zF,zF,zF,zF,zF,zF,zF,zF,zF]) (v := .int .i64 f.e) rfl (by rfl) (by kernel_rfl) (by kernel_rfl) (by kernel_rfl) (fun _ _ _ h => h) (by assumption) (by rfl) ?y49 ?z50
                case y49 =>
                 intro w' h1
                 have k_ := (hci.out.blk (h1 _ hbw)).1
                 try simp only [Nat.zero_mul, Nat.add_zero] at k_
                 go_simp
                try simp only [Act.put, zp]
                refine zE 12 #[zT,zT,zT,zT,zT,zT,zT,zT,zT,zT,zT,zT,zT,zF,zF,zF,zF,zF,zF,zF,zF,zF,zF,zF,zF,zF,zF,zF,zF,zF,zF,zF,zF,zF,zF,zF,zF,zF,zF,zF,zF] ?_ rfl ?hy138 ?rest138
                case hy138 => intro w; go_simp; (try with_reducible rfl)
                try simp only [Act.put, zp]
                refine zE 13 #[zT,zT,zT,zT,zT,zT,zT,zT,zT,zT,zT,zT,zT,zT,zF,zF,zF,zF,zF,zF,zF,zF,zF,zF,zF,zF,zF,zF,zF,zF,zF,zF,zF,zF,zF,zF,zF,zF,zF,zF,zF] ?_ rfl ?hy139 ?rest139
                case hy139 => intro w; go_simp; (try with_reducible rfl)
                try simp only [Act.put, zp]
                refine zE 14 #[zT,zT,zT,zT,zT,zT,zT,zT,zT,zT,zT,zT,zT,zT,zT,zF,zF,zF,zF,zF,zF,zF,zF,zF,zF,zF,zF,zF,zF,zF,zF,zF,zF,zF,zF,zF,zF,zF,zF,zF,zF] ?_ rfl ?hy140 ?rest140
                case hy140 => intro w; go_simp; (try with_reducible rfl)
                try simp only [Act.put, zp]
                refine zE 15 #[zT,zT,zT,zT,zT,zT,zT,zT,zT,zT,zT,zT,zT,zT,zT,zT,zF,zF,zF,zF,zF,zF,zF,zF,zF,zF,zF,zF,zF,zF,zF,zF,zF,zF,zF,zF,zF,zF,zF,zF,zF] ?_ rfl ?hy141 ?rest141
                case hy141 => intro w; go_simp; (try with_reducible rfl)
                try simp only [Act.put, zp]
                refine zE 16 #[zT,zT,zT,zT,zT,zT,zT,zT,zT,zT,zT,zT,zT,zT,zT,zT,zT,zF,zF,zF,zF,zF,zF,zF,zF,zF,zF,zF,zF,zF,zF,zF,zF,zF,zF,zF,zF,zF,zF,zF,zF] ?_ rfl ?hy142 ?rest142
                case hy142 => intro w; go_simp; (try with_reducible rfl)
                try simp only [Act.put, zp]
                refine zE 17 #[zT,zT,zT,zT,zT,zT,zT,zT,zT,zT,zT,zT,zT,zT,zT,zT,zT,zT,zF,zF,zF,zF,zF,zF,zF,zF,zF,zF,zF,zF,zF,zF,zF,zF,zF,zF,zF,zF,zF,zF,zF] ?_ rfl ?hy143 ?rest143
                case hy143 => intro w; go_simp; (try with_reducible rfl)
                try simp only [Act.put, zp]
                refine zE 18 #[zT,zT,zT,zT,zT,zT,zT,zT,zT,zT,zT,zT,zT,zT,zT,zT,zT,zT,zT,zF,zF,zF,zF,zF,zF,zF,zF,zF,zF,zF,zF,zF,zF,zF,zF,zF,zF,zF,zF,zF,zF] ?_ rfl ?hy144 ?rest144
                case hy144 => intro w; go_simp; (try with_reducible rfl)
                try simp only [Act.put, zp]
                have kpy51 : Keeps wr v45 := fun p hp => Below.block j46 p hp
                refine readE (i := 19) (L := #[zT,zT,zT,zT,zT,zT,zT,zT,zT,zT,zT,zT,zT,zT,zT,zT,zT,zT,zT,zT,zF,zF,zF,zF,zF,zF,zF,zF,zF,zF,zF,zF,zF,zF,zF,zF,zF,zF,zF,zF,zF]) (v := .agg #[.bool f.P.M.S.s, .slice f.P.M.S.A f.P.M.S.n f.P.M.S.c, .int .i64 f.P.M.S.e, .bool f.P.M.W.s, .slice f.P.M.W.A f.P.M.W.n f.P.M.W.c, .int .i64 f.P.M.W.e, .bool f.P.M.C.s, .slice f.P.M.C.A f.P.M.C.n f.P.M.C.c, .int .i64 f.P.M.C.e, .bool f.P.M.A.s, .slice f.P.M.A.A f.P.M.A.n f.P.M.A.c, .int .i64 f.P.M.A.e, .bool f.P.h, .int .i64 f.P.mn, .int .i64 f.P.mx, .slice f.P.A f.P.n f.P.c]) rfl (by rfl) (by kernel_rfl) (by kernel_rfl) (by kernel_rfl) (fun _ _ _ h => h) (by assumption) (by rfl) ?y51 ?z52
                case y51 =>
                 intro w' h1
                 obtain ⟨k_, k0, k1, k2, k3, k4, k5, k6, k7, k8, k9, k10, k11, k12, k13, k14, k15⟩ := hci.out.blk (h1 _ hbw)
                 go_simp
                try simp only [Act.put, zp]
                refine stepK (i := 20) (L := #[zT,zT,zT,zT,zT,zT,zT,zT,zT,zT,zT,zT,zT,zT,zT,zT,zT,zT,zT,zT,zT,zF,zF,zF,zF,zF,zF,zF,zF,zF,zF,zF,zF,zF,zF,zF,zF,zF,zF,zF,zF]) rfl (by rfl) (by kernel_rfl) (by rfl) (fun K hK => ?_)
                go_simp
                go_at_call 65
                refine (MayPart_any v45 f.P (PRows.on hri j46) true HM.out).mono ?_
                rintro e' v53 ⟨rfl, j54⟩
                refine hK _ _ ⟨fun _ _ => fun p hp => Below.block (later j46 j54) p hp, ?_⟩
                clear hK K
                try simp only []
                refine zE 21 #[zT,zT,zT,zT,zT,zT,zT,zT,zT,zT,zT,zT,zT,zT,zT,zT,zT,zT,zT,zT,zT,zT,zF,zF,zF,zF,zF,zF,zF,zF,zF,zF,zF,zF,zF,zF,zF,zF,zF,zF,zF] ?_ rfl ?hy147 ?rest147
                case hy147 => intro w; go_simp; (try with_reducible rfl)
                try simp only [Act.put, zp]
                refine zE 22 #[zT,zT,zT,zT,zT,zT,zT,zT,zT,zT,zT,zT,zT,zT,zT,zT,zT,zT,zT,zT,zT,zT,zT,zF,zF,zF,zF,zF,zF,zF,zF,zF,zF,zF,zF,zF,zF,zF,zF,zF,zF] ?_ rfl ?hy148 ?rest148
                case hy148 => intro w; go_simp; (try with_reducible rfl)
                try simp only [Act.put, zp]
                refine zE 23 #[zT,zT,zT,zT,zT,zT,zT,zT,zT,zT,zT,zT,zT,zT,zT,zT,zT,zT,zT,zT,zT,zT,zT,zT,zF,zF,zF,zF,zF,zF,zF,zF,zF,zF,zF,zF,zF,zF,zF,zF,zF] ?_ rfl ?hy149 ?rest149
                case hy149 => intro w; go_simp; (try with_reducible rfl)
                try simp only [Act.put, zp]
                refine zE 24 #[zT,zT,zT,zT,zT,zT,zT,zT,zT,zT,zT,zT,zT,zT,zT,zT,zT,zT,zT,zT,zT,zT,zT,zT,zT,zF,zF,zF,zF,zF,zF,zF,zF,zF,zF,zF,zF,zF,zF,zF,zF] ?_ rfl ?hy150 ?rest150
                case hy150 => intro w; go_simp; (try with_reducible rfl)
                try simp only [Act.put, zp]
                refine zE 25 #[zT,zT,zT,zT,zT,zT,zT,zT,zT,zT,zT,zT,zT,zT,zT,zT,zT,zT,zT,zT,zT,zT,zT,zT,zT,zT,zF,zF,zF,zF,zF,zF,zF,zF,zF,zF,zF,zF,zF,zF,zF] ?_ rfl ?hy151 ?rest151
                case hy151 => intro w; go_simp; (try with_reducible rfl)
                try simp only [Act.put, zp]
                refine zE 26 #[zT,zT,zT,zT,zT,zT,zT,zT,zT,zT,zT,zT,zT,zT,zT,zT,zT,zT,zT,zT,zT,zT,zT,zT,zT,zT,zT,zF,zF,zF,zF,zF,zF,zF,zF,zF,zF,zF,zF,zF,zF] ?_ rfl ?hy152 ?rest152
                case hy152 => intro w; go_simp; (try with_reducible rfl)
                try simp only [Act.put, zp]
                refine zE 27 #[zT,zT,zT,zT,zT,zT,zT,zT,zT,zT,zT,zT,zT,zT,zT,zT,zT,zT,zT,zT,zT,zT,zT,zT,zT,zT,zT,zT,zF,zF,zF,zF,zF,zF,zF,zF,zF,zF,zF,zF,zF] ?_ rfl ?hy153 ?rest153
                case hy153 => intro w; go_simp; (try with_reducible rfl)
                try simp only [Act.put, zp]
                refine zE 28 #[zT,zT,zT,zT,zT,zT,zT,zT,zT,zT,zT,zT,zT,zT,zT,zT,zT,zT,zT,zT,zT,zT,zT,zT,zT,zT,zT,zT,zT,zF,zF,zF,zF,zF,zF,zF,zF,zF,zF,zF,zF] ?_ rfl ?hy154 ?rest154
                case hy154 => intro w; go_simp; (try with_reducible rfl)
                try simp only [Act.put, zp]
                refine zE 29 #[zT,zT,zT,zT,zT,zT,zT,zT,zT,zT,zT,zT,zT,zT,zT,zT,zT,zT,zT,zT,zT,zT,zT,zT,zT,zT,zT,zT,zT,zT,zF,zF,zF,zF,zF,zF,zF,zF,zF,zF,zF] ?_ rfl ?hy155 ?rest155
                case hy155 => intro w; go_simp; (try with_reducible rfl)
                try simp only [Act.put, zp]
                refine zE 30 #[zT,zT,zT,zT,zT,zT,zT,zT,zT,zT,zT,zT,zT,zT,zT,zT,zT,zT,zT,zT,zT,zT,zT,zT,zT,zT,zT,zT,zT,zT,zT,zF,zF,zF,zF,zF,zF,zF,zF,zF,zF] ?_ rfl ?hy156 ?rest156
                case hy156 => intro w; go_simp; (try with_reducible rfl)
                try simp only [Act.put, zp]
                have kpy55 : Keeps wr v53 := fun p hp => Below.block (later j46 j54) p hp
                refine readE (i := 31) (L := #[zT,zT,zT,zT,zT,zT,zT,zT,zT,zT,zT,zT,zT,zT,zT,zT,zT,zT,zT,zT,zT,zT,zT,zT,zT,zT,zT,zT,zT,zT,zT,zT,zF,zF,zF,zF,zF,zF,zF,zF,zF]) (v := .int .i64 f.e) rfl (by rfl) (by kernel_rfl) (by kernel_rfl) (by kernel_rfl) (fun _ _ _ h => h) (by assumption) (by rfl) ?y55 ?z56
                case y55 =>
                 intro w' h1
                 have k_ := (hci.out.blk (h1 _ hbw)).1
                 try simp only [Nat.zero_mul, Nat.add_zero] at k_
                 go_simp
                try simp only [Act.put, zp]
                refine zE 32 #[zT,zT,zT,zT,zT,zT,zT,zT,zT,zT,zT,zT,zT,zT,zT,zT,zT,zT,zT,zT,zT,zT,zT,zT,zT,zT,zT,zT,zT,zT,zT,zT,zT,zF,zF,zF,zF,zF,zF,zF,zF] ?_ rfl ?hy158 ?rest158
                case hy158 => intro w; go_simp; (try with_reducible rfl)
                try simp only [Act.put, zp]
                refine zE 33 #[zT,zT,zT,zT,zT,zT,zT,zT,zT,zT,zT,zT,zT,zT,zT,zT,zT,zT,zT,zT,zT,zT,zT,zT,zT,zT,zT,zT,zT,zT,zT,zT,zT,zT,zF,zF,zF,zF,zF,zF,zF] ?_ rfl ?hy159 ?rest159
                case hy159 => intro w; go_simp; (try with_reducible rfl)
                try simp only [Act.put, zp]
                refine zE 34 #[zT,zT,zT,zT,zT,zT,zT,zT,zT,zT,zT,zT,zT,zT,zT,zT,zT,zT,zT,zT,zT,zT,zT,zT,zT,zT,zT,zT,zT,zT,zT,zT,zT,zT,zT,zF,zF,zF,zF,zF,zF] ?_ rfl ?hy160 ?rest160
                case hy160 => intro w; go_simp; (try with_reducible rfl)
                try simp only [Act.put, zp]
                refine zE 35 #[zT,zT,zT,zT,zT,zT,zT,zT,zT,zT,zT,zT,zT,zT,zT,zT,zT,zT,zT,zT,zT,zT,zT,zT,zT,zT,zT,zT,zT,zT,zT,zT,zT,zT,zT,zT,zF,zF,zF,zF,zF] ?_ rfl ?hy161 ?rest161
                case hy161 => intro w; go_simp; (try with_reducible rfl)
                try simp only [Act.put, zp]
                refine zE 36 #[zT,zT,zT,zT,zT,zT,zT,zT,zT,zT,zT,zT,zT,zT,zT,zT,zT,zT,zT,zT,zT,zT,zT,zT,zT,zT,zT,zT,zT,zT,zT,zT,zT,zT,zT,zT,zT,zF,zF,zF,zF] ?_ rfl ?hy162 ?rest162
                case hy162 => intro w; go_simp; (try with_reducible rfl)
                try simp only [Act.put, zp]
                have kpy57 : Keeps wr v53 := fun p hp => Below.block (later j46 j54) p hp
                refine readE (i := 37) (L := #[zT,zT,zT,zT,zT,zT,zT,zT,zT,zT,zT,zT,zT,zT,zT,zT,zT,zT,zT,zT,zT,zT,zT,zT,zT,zT,zT,zT,zT,zT,zT,zT,zT,zT,zT,zT,zT,zT,zF,zF,zF]) (v := .int .i64 p.e) rfl (by rfl) (by kernel_rfl) (by kernel_rfl) (by kernel_rfl) (fun _ _ _ h => h) (by assumption) (by rfl) ?y57 ?z58
                case y57 =>
                 intro w' h1
                 have k_ := (hpi.out.blk (h1 _ hbw)).1
                 go_simp
                try simp only [Act.put, zp]
                refine zE 38 #[zT,zT,zT,zT,zT,zT,zT,zT,zT,zT,zT,zT,zT,zT,zT,zT,zT,zT,zT,zT,zT,zT,zT,zT,zT,zT,zT,zT,zT,zT,zT,zT,zT,zT,zT,zT,zT,zT,zT,zF,zF] ?_ rfl ?hy164 ?rest164
                case hy164 => intro w; go_simp; (try with_reducible rfl)
                try simp only [Act.put, zp]
                refine zE 39 #[zT,zT,zT,zT,zT,zT,zT,zT,zT,zT,zT,zT,zT,zT,zT,zT,zT,zT,zT,zT,zT,zT,zT,zT,zT,zT,zT,zT,zT,zT,zT,zT,zT,zT,zT,zT,zT,zT,zT,zT,zF] ?_ rfl ?hy165 ?rest165
                case hy165 => intro w; go_simp; (try with_reducible rfl)
                try simp only [Act.put, zp]
                refine zE 40 #[zT,zT,zT,zT,zT,zT,zT,zT,zT,zT,zT,zT,zT,zT,zT,zT,zT,zT,zT,zT,zT,zT,zT,zT,zT,zT,zT,zT,zT,zT,zT,zT,zT,zT,zT,zT,zT,zT,zT,zT,zT] ?_ rfl ?hy166 ?rest166
                case hy166 => intro w; go_simp; (try with_reducible rfl)
                try simp only [Act.put, zp]
                refine doneE (by kernel_rfl) ?_ _
                have hbz := hb.trans (((later j46 j54)).mono lw)
                clear hmy2 HM
                go_wp2
                go_roundw
                case rel => exact ⟨i + 1, f.e, by first | rfl | (congr 1; omega) | go_num, by omega, hbz, hmy3, Lib.hid fun h _ => (by simp only [Nat.add_sub_cancel]; rw [HF.out]), Lib.hid ⟨fun h => absurd h (Nat.succ_ne_zero _), fun _ => by omega⟩⟩
                case measure => first | (simp [intOf]; done) | (simp [intOf]; omega)
theorem ask_code {n : Nat} {fs : List Fv} {z k q : Int} (hk : askF n fs z = k) (hq : checkF n fs = q) : (q ≠ 0 → k = q) ∧ (q = 0 → z < 0 ∨ 65535 < z → k = 2) ∧ (q = 0 → ¬ (z < 0 ∨ 65535 < z) → k = 0) := by
 subst hk hq
 unfold askF
 refine ⟨fun h => by rw [if_pos h], fun h h2 => by rw [if_neg (by rw [h]; simp), if_pos h2], fun h h2 => by rw [if_neg (by rw [h]; simp), if_neg h2]⟩
set_option maxHeartbeats 3200000 in
set_option maxRecDepth 100000 in
/-- headcountref20.asked. -/
theorem rAsked_any (w : World) (A : Option Addr) (n c : Nat) (fs : List Fv) (hL : LFs w 0 w.heap.size A n fs) (z k : Int) (hk : askF n fs z = k) :
  Calls Try.prog 64 #[.slice A n c, .int .i64 z] w fun e w' => e = .returned (.int .i64 k) ∧ Below w.heap.size w w' := by
 obtain ⟨q, hq⟩ : ∃ q, checkF n fs = q := ⟨_, rfl⟩
 have HA := Lib.hid (ask_code hk hq)
 have HQ := Lib.hid hq
 clear hk hq
 go_enter Try.func64, Try.ntmps64
 go_wp2_with fail
 refine (RCheckF_any w A n c fs hL q HQ.out).mono ?_
 rintro e' v ⟨rfl, j⟩
 by_cases h0 : q = 0
 rotate_left
 · obtain rfl := HA.out.1 h0
   have n0 : (k != 0) = true := by simpa using h0
   clear HA HQ
   go_wp2
   go_ret
   exact ⟨rfl, j⟩
 · subst h0
   have HB := Lib.hid (HA.out.2.1 rfl)
   have HC := Lib.hid (HA.out.2.2 rfl)
   clear HA HQ
   by_cases h1 : z < 0
   · obtain rfl := HB.out (.inl h1)
     clear HB HC
     go_wp2
     go_ret
     exact ⟨rfl, j⟩
   · have d1 : decide (z < 0) = false := decide_eq_false h1
     by_cases h2 : (65535 : Int) < z
     · obtain rfl := HB.out (.inr h2)
       clear HB HC
       go_wp2
       go_ret
       exact ⟨rfl, j⟩
     · have d2 : decide ((65535 : Int) < z) = false := decide_eq_false h2
       obtain rfl := HC.out (by omega)
       clear HB HC
       go_wp2
       go_ret
       exact ⟨rfl, j⟩
end Ma
end Go.Proofs.Ytbbnbgllgomolaa
namespace Go.Proofs.Ytbbnbgllgomolaa
open Go.RowKit
namespace Ma
open Dp Dy
set_option maxHeartbeats 3200000 in
set_option maxRecDepth 100000 in
/-- past.place's own function. -/
theorem pFn_any (w : World) (f : Fv) : Calls Try.prog 97 #[.agg #[.int .i64 f.e, .bool f.P.M.S.s, .slice f.P.M.S.A f.P.M.S.n f.P.M.S.c, .int .i64 f.P.M.S.e, .bool f.P.M.W.s, .slice f.P.M.W.A f.P.M.W.n f.P.M.W.c, .int .i64 f.P.M.W.e, .bool f.P.M.C.s, .slice f.P.M.C.A f.P.M.C.n f.P.M.C.c, .int .i64 f.P.M.C.e, .bool f.P.M.A.s, .slice f.P.M.A.A f.P.M.A.n f.P.M.A.c, .int .i64 f.P.M.A.e, .bool f.P.h, .int .i64 f.P.mn, .int .i64 f.P.mx, .slice f.P.A f.P.n f.P.c]] w fun e w' => e = .returned (.int .i64 f.e) ∧ Below w.heap.size w w' := by
 obtain ⟨w1, hw, bF, j1, S1⟩ := alloc_f w f
 obtain ⟨⟨k0, k1, k2, k3, k4, k5, k6, k7, k8, k9, k10, k11, k12, k13, k14, k15, k16⟩, kf⟩ := FBox.cell bF
 go_enter Try.func97, Try.ntmps97
 go_wp2
 go_ret
 exact ⟨rfl, j1⟩
set_option maxHeartbeats 12800000 in
set_option maxRecDepth 100000 in
/-- past.ahead, of frozen parts. -/
theorem ahead_any (w : World) (A : Option Addr) (n c : Nat) (fs : List Fv) (hL : LFs w 0 w.heap.size A n fs) (hn : n ≤ 1024) (z a : Int) (hm : mayF a fs = true) (r : Nat) (hr : aheadF fs z = r) :
  Calls Try.prog 96 #[.slice A n c, .int .i64 z, .func (.func 97) #[] #[]] w fun e w' => e = .returned (.int .i64 (r : Nat)) ∧ Below w.heap.size w w' := by
 have HL := Lib.hid hL.len
 have HR := Lib.hid hr
 have HM := Lib.hid hm
 have hrn : r ≤ n := by
  have := aheadF_le fs z
  rw [hr, hL.len] at this
  exact this
 clear hr hm
 go_enter Try.func96, Try.ntmps96
 go_wp2
 go_loopw [7, 8, 9] (fun lv hv _ wr => ∃ lo hi : Nat, lv = .int .i64 lo ∧ hv = .int .i64 hi ∧ lo ≤ r ∧ r ≤ hi ∧ hi ≤ n ∧ Below w.heap.size w wr) (fun lv hv _ _ => ((intOf hv) - (intOf lv)).toNat)
 case atStart => exact ⟨0, n, rfl, rfl, Nat.zero_le _, hrn, Nat.le_refl _, Below.refl _ _⟩
 case round =>
  obtain ⟨lo, hi, rfl, rfl, h1, h2, h3, hb⟩ := hrel
  have lw := hb.size
  by_cases hlt : lo < hi
  rotate_left
  · obtain rfl : lo = r := by omega
    go_wp2
    go_ret
    exact ⟨rfl, hb⟩
  · obtain ⟨m, hm⟩ : ∃ m, (lo + hi) / 2 = m := ⟨_, rfl⟩
    have hm1 : lo ≤ m := by omega
    have hm2 : m < hi := by omega
    have hm3 : m < n := by omega
    have hsum : IntKind.i64.wrap ((lo : Int) + (hi : Int)) = ((lo + hi : Nat) : Int) := by rw [IntKind.wrap_i64]; omega
    have hdiv0 : ((lo + hi : Nat) : Int).tdiv 2 = ((m : Nat) : Int) := by rw [Int.tdiv_eq_ediv_of_nonneg (by omega)]; omega
    have hdiv : ((lo : Int) + (hi : Int)).tdiv 2 = ((m : Nat) : Int) := by rw [Int.tdiv_eq_ediv_of_nonneg (by omega)]; omega
    have hwm : IntKind.i64.wrap ((m : Nat) : Int) = ((m : Nat) : Int) := by rw [IntKind.wrap_i64]; omega
    have hwm1 : IntKind.i64.wrap (((m : Nat) : Int) + 1) = ((m + 1 : Nat) : Int) := by rw [IntKind.wrap_i64]; omega
    have hmf : m < fs.length := by rw [HL.out]; exact hm3
    obtain ⟨b, off, hA, hb1, hb2, hc⟩ := (hL.below hb (Nat.le_refl _)).row (by omega)
    have hci := Lib.hid (hc m hmf)
    obtain ⟨f, hf⟩ : ∃ f, fs[m] = f := ⟨_, rfl⟩
    rw [hf] at hci
    have HF := Lib.hid hf
    have HLT := Lib.hid (fun (h : m < r) => by have := aheadF_lt (fs := fs) (z := z) m hmf (by rw [HR.out]; exact h); rw [hf] at this; exact this : m < r → f.e < z)
    have HGE := Lib.hid (fun (h : r ≤ m) => by have := aheadF_ge HM.out (z := z) m hmf (by rw [HR.out]; exact h); rw [hf] at this; exact this : r ≤ m → z ≤ f.e)
    clear hc hf
    subst hA
    have rg := hci.out.range
    go_wp2_with (first
     | (refine wpList_load_mid rfl 68 (.tmp 22) rfl b (off + m * 17) rfl [.int .i64 f.e, .bool f.P.M.S.s, .slice f.P.M.S.A f.P.M.S.n f.P.M.S.c, .int .i64 f.P.M.S.e, .bool f.P.M.W.s, .slice f.P.M.W.A f.P.M.W.n f.P.M.W.c, .int .i64 f.P.M.W.e, .bool f.P.M.C.s, .slice f.P.M.C.A f.P.M.C.n f.P.M.C.c, .int .i64 f.P.M.C.e, .bool f.P.M.A.s, .slice f.P.M.A.A f.P.M.A.n f.P.M.A.c, .int .i64 f.P.M.A.e, .bool f.P.h, .int .i64 f.P.mn, .int .i64 f.P.mx, .slice f.P.A f.P.n f.P.c] _ rg Try.underlying68 rfl (by kernel_rfl) ?_))
    refine (pFn_any wr f).mono ?_
    rintro e' u1 ⟨rfl, j1⟩
    clear rg
    have hb3 := hb.trans (j1.mono lw)
    by_cases h5 : f.e < z
    · have hr1 : m < r := by
        rcases Nat.lt_or_ge m r with h | h
        · exact h
        · have := HGE.out h
          omega
      go_wp2
      go_roundw
      case rel => exact ⟨m + 1, hi, by first | rfl | (congr 1; omega) | go_num, rfl, hr1, h2, h3, hb3⟩
      case measure => first | (simp [intOf]; done) | (simp [intOf]; omega)
    · have hr1 : r ≤ m := by
        rcases Nat.lt_or_ge m r with h | h
        · exact absurd (HLT.out h) h5
        · exact h
      have d5 : decide (f.e < z) = false := decide_eq_false h5
      go_wp2
      go_roundw
      case rel => exact ⟨lo, m, rfl, by first | rfl | (congr 1; omega) | go_num, h1, hr1, by omega, hb3⟩
      case measure => first | (simp [intOf]; done) | (simp [intOf]; omega)
set_option maxHeartbeats 6400000 in
set_option maxRecDepth 100000 in
/-- past.place. -/
theorem place_any (w : World) (A : Option Addr) (n c : Nat) (fs : List Fv) (hL : LFs w 0 w.heap.size A n fs) (z k : Int) (hk : askF n fs z = k) (i : Nat) (hi : (if k = 0 then aheadF fs z else 0) = i) :
  Calls Try.prog 63 #[.slice A n c, .int .i64 z] w fun e w' => e = .returned (.tuple #[.int .i64 (i : Nat), .int .i64 k]) ∧ Below w.heap.size w w' := by
 obtain ⟨q, hq⟩ : ∃ q, checkF n fs = q := ⟨_, rfl⟩
 have HA := Lib.hid (ask_code hk hq)
 have HQ := Lib.hid hq
 have HI := Lib.hid hi
 have HK := Lib.hid hk
 clear hk hq hi
 go_enter Try.func63, Try.ntmps63
 go_wp2_with fail
 refine (CheckF_any w A n c fs hL q HQ.out).mono ?_
 rintro e' v ⟨rfl, j⟩
 by_cases h0 : q = 0
 rotate_left
 · obtain rfl := HA.out.1 h0
   obtain rfl : i = 0 := by rw [← HI.out, if_neg h0]
   have n0 : (k != 0) = true := by simpa using h0
   clear HA HQ HI HK
   go_wp2
   go_ret2
   exact ⟨rfl, j⟩
 · subst h0
   have HB := Lib.hid (HA.out.2.1 rfl)
   have HC := Lib.hid (HA.out.2.2 rfl)
   clear HA
   by_cases h1 : z < 0
   · obtain rfl := HB.out (.inl h1)
     obtain rfl : i = 0 := by rw [← HI.out, if_neg (by decide)]
     clear HB HC HI HK HQ
     go_wp2
     go_ret2
     exact ⟨rfl, j⟩
   · have d1 : decide (z < 0) = false := decide_eq_false h1
     by_cases h2 : (65535 : Int) < z
     · obtain rfl := HB.out (.inr h2)
       obtain rfl : i = 0 := by rw [← HI.out, if_neg (by decide)]
       clear HB HC HI HK HQ
       go_wp2
       go_ret2
       exact ⟨rfl, j⟩
     · have d2 : decide ((65535 : Int) < z) = false := decide_eq_false h2
       obtain rfl := HC.out (by omega)
       have hi' : aheadF fs z = i := by rw [← HI.out, if_pos rfl]
       have HI2 := Lib.hid hi'
       obtain ⟨q1, q2⟩ := checkF_zero HQ.out
       have HM := Lib.hid q2
       clear HB HC HI HK HQ hi' q2
       go_wp2_with fail
       refine (ahead_any v A n c fs (hL.on j) q1 z (-1) HM.out i HI2.out).mono ?_
       rintro e' v2 ⟨rfl, j2⟩
       have j3 := j.trans (j2.mono j.size)
       go_wp2
       go_ret2
       exact ⟨rfl, j3⟩
end Ma
end Go.Proofs.Ytbbnbgllgomolaa
namespace Go.Proofs.Ytbbnbgllgomolaa
open Go.RowKit
namespace Ma
open Dp Dy
theorem freeze_code {n : Nat} {fs : List Fv} {z k c : Int} {p : Pv} {m : Bool} {i : Nat} (hk : freezeF n fs z p = k) (hc : askF n fs z = c) (hm : mayP p = m) (hi : (if c = 0 then aheadF fs z else 0) = i) :
  (c ≠ 0 → k = c) ∧ (c = 0 → m = false → k = 8) ∧ (c = 0 → m = true → i < n → k = 12) ∧ (c = 0 → m = true → ¬ i < n → n = 1024 → k = 9) ∧ (c = 0 → m = true → ¬ i < n → n ≠ 1024 → k = 0) := by
 subst hk hc hm
 unfold freezeF
 refine ⟨fun h => by rw [if_pos h], fun h h1 => ?_, fun h h1 h2 => ?_, fun h h1 h2 h3 => ?_, fun h h1 h2 h3 => ?_⟩
 · rw [if_neg (by rw [h]; simp), if_pos h1]
 · rw [if_pos h] at hi
   rw [if_neg (by rw [h]; simp), if_neg (by rw [h1]; simp), hi, if_pos h2]
 · rw [if_pos h] at hi
   rw [if_neg (by rw [h]; simp), if_neg (by rw [h1]; simp), hi, if_neg h2, if_pos h3]
 · rw [if_pos h] at hi
   rw [if_neg (by rw [h]; simp), if_neg (by rw [h1]; simp), hi, if_neg h2, if_neg h3]
set_option maxHeartbeats 25600000 in
set_option maxRecDepth 100000 in
/-- headcountref20.Frozen. -/
theorem RFrozen_any (w : World) (A : Option Addr) (n c : Nat) (fs : List Fv) (hL : LFs w 0 w.heap.size A n fs) (z : Int) (p : Pv) (hR : PRows w 0 w.heap.size p) (hn : n ≤ 1028) (hs : ∀ j (h : j < fs.length), (∀ x, x < 4 → (fs[j].P.M.get x).n ≤ 1000000) ∧ fs[j].P.n ≤ 1000000) (hsp : (∀ x, x < 4 → (p.M.get x).n ≤ 1000000) ∧ p.n ≤ 1000000) :
  Calls Try.prog 66 #[.slice A n c, .int .i64 z, .agg #[.bool p.M.S.s, .slice p.M.S.A p.M.S.n p.M.S.c, .int .i64 p.M.S.e, .bool p.M.W.s, .slice p.M.W.A p.M.W.n p.M.W.c, .int .i64 p.M.W.e, .bool p.M.C.s, .slice p.M.C.A p.M.C.n p.M.C.c, .int .i64 p.M.C.e, .bool p.M.A.s, .slice p.M.A.A p.M.A.n p.M.A.c, .int .i64 p.M.A.e, .bool p.h, .int .i64 p.mn, .int .i64 p.mx, .slice p.A p.n p.c]] w fun e w' => ∃ (A' : Option Addr) (n' c' : Nat) (gs : List Fv), e = .returned (.slice A' n' c') ∧ TwinF (frozenF 0 fs z p) gs ∧ Below w.heap.size w w' ∧ OwnF w' w.heap.size (.slice A' n' c') n' gs ∧ ∀ g ∈ gs, PRows w' w.heap.size w'.heap.size g.P := by
 obtain ⟨w1, hw, bP, j1, S1⟩ := alloc_p w p
 have lw1 := j1.size
 have HS := Lib.hid hs
 have HSP := Lib.hid hsp
 clear hs hsp
 obtain ⟨i0, hi0, hz0, hz1, hz2⟩ := info_parts infoF
 go_enter Try.func66, Try.ntmps66
 go_wp2_with fail
 try clear hw
 try clear hw
 refine region_E (Keeps w1) [] (m := 9) (L := #[zF,zF,zF,zF,zF,zF,zF,zF,zF]) (by kernel_rfl) (by rfl) (by rfl) ?_
 have j2 : Below w1.heap.size w1 w1.drew := (Below.refl _ _).drew
 generalize w1.drew = v1 at *
 refine zE 0 #[zT,zF,zF,zF,zF,zF,zF,zF,zF] ?_ rfl ?hy167 ?rest167
 case hy167 => intro w; go_simp; (try with_reducible rfl)
 try simp only [Act.put, zp]
 refine zE 2 #[zT,zF,zT,zF,zF,zF,zF,zF,zF] ?_ rfl ?hy168 ?rest168
 case hy168 => intro w; go_simp; (try with_reducible rfl)
 try simp only [Act.put, zp]
 have kpy3 : Keeps w1 v1 := fun p hp => Below.block j2 p hp
 refine readE (i := 3) (L := #[zT,zF,zT,zT,zF,zF,zF,zF,zF]) (v := .agg #[.bool p.M.S.s, .slice p.M.S.A p.M.S.n p.M.S.c, .int .i64 p.M.S.e, .bool p.M.W.s, .slice p.M.W.A p.M.W.n p.M.W.c, .int .i64 p.M.W.e, .bool p.M.C.s, .slice p.M.C.A p.M.C.n p.M.C.c, .int .i64 p.M.C.e, .bool p.M.A.s, .slice p.M.A.A p.M.A.n p.M.A.c, .int .i64 p.M.A.e, .bool p.h, .int .i64 p.mn, .int .i64 p.mx, .slice p.A p.n p.c]) rfl (by rfl) (by kernel_rfl) (by kernel_rfl) (by kernel_rfl) (fun _ _ _ h => h) (by assumption) (by rfl) ?y3 ?z4
 case y3 =>
  intro w' h1
  exact run_load_op 31 (.tmp 5) rfl (w.heap.size) 0 rfl (cells16 p) _ (PBox.range ((h1 _ S1).trans bP)) Try.underlying31 rfl (by kernel_rfl)
 try simp only [Act.put, zp]
 refine stepK (i := 1) (L := #[zT,zT,zT,zT,zF,zF,zF,zF,zF]) rfl (by rfl) (by kernel_rfl) (by rfl) (fun K hK => ?_)
 go_simp
 go_at_call 14
 refine (RTwinF_any v1 A n c fs (LFs.on hL (later j1 j2)) hn HS.out).mono ?_
 rintro e' v5 ⟨A2, c2, gs, rfl, tf, j6, O1, r1⟩
 replace tf := Lib.hid tf
 refine hK _ _ ⟨fun _ _ => fun p hp => Below.block (later j2 j6) p hp, ?_⟩
 clear hK K
 try simp only [Act.put, zp]
 refine stepK (i := 4) (L := #[zT,zT,zT,zT,zT,zF,zF,zF,zF]) rfl (by rfl) (by kernel_rfl) (by rfl) (fun K hK => ?_)
 go_simp
 go_at_call 15
 refine (RTwinPart_any v5 p (PRows.on hR (later j1 (later j2 j6))) HSP.out.1 HSP.out.2).mono ?_
 rintro e' v7 ⟨q, rfl, tq, j8, Rq⟩
 replace tq := Lib.hid tq
 refine hK _ _ ⟨fun _ _ => fun p hp => Below.block (later j2 (later j6 j8)) p hp, ?_⟩
 clear hK K
 try simp only [Act.put, zp]
 refine zE 5 #[zT,zT,zT,zT,zT,zT,zF,zF,zF] ?_ rfl ?hy172 ?rest172
 case hy172 => intro w; go_simp; (try with_reducible rfl)
 try simp only [Act.put, zp]
 have sz1 : w1.heap.size ≤ v1.heap.size := Below.size j2
 have sz0 : w.heap.size ≤ w1.heap.size := Below.size j1
 have sz2 : v1.heap.size ≤ v5.heap.size := Below.size j6
 have sz3 : v5.heap.size ≤ v7.heap.size := Below.size j8
 obtain ⟨vF8, hv⟩ : ∃ U, v7.alloc (.cells #[.int .i64 z, .bool q.M.S.s, .slice q.M.S.A q.M.S.n q.M.S.c, .int .i64 q.M.S.e, .bool q.M.W.s, .slice q.M.W.A q.M.W.n q.M.W.c, .int .i64 q.M.W.e, .bool q.M.C.s, .slice q.M.C.A q.M.C.n q.M.C.c, .int .i64 q.M.C.e, .bool q.M.A.s, .slice q.M.A.A q.M.A.n q.M.A.c, .int .i64 q.M.A.e, .bool q.h, .int .i64 q.mn, .int .i64 q.mx, .slice q.A q.n q.c] 68) = U := ⟨_, rfl⟩
 have jF8 : Below v7.heap.size v7 vF8 := by rw [← hv]; exact (Below.refl _ _).alloc (Nat.le_refl _) _
 have sz4 : v7.heap.size < vF8.heap.size := by rw [← hv]; simp
 have hraw := raw_oneF v7 (⟨z, q⟩ : Fv) hv
 refine stepK (i := 6) (L := #[zT,zT,zT,zT,zT,zT,zT,zF,zF]) rfl (by rfl) (by kernel_rfl) (by rfl) (fun K hK => ?_)
 go_simp
 try rw [hv]
 refine hK _ _ ⟨fun _ _ => fun p hp => Below.block (later j2 (later j6 (later j8 jF8))) p hp, ?_⟩
 clear hK K
 try clear hv
 try simp only [Act.put, zp]
 have O8 := (OwnF.on O1 (later j8 jF8))
 have r8 : ∀ g ∈ gs, PRows vF8 v1.heap.size vF8.heap.size g.P := fun g hg => ((r1 g hg).below (later j8 jF8) (Nat.le_refl _)).more (Nat.le_refl _) (by omega)
 have Rd : PRows vF8 v5.heap.size vF8.heap.size q := (Rq.below jF8 (Nat.le_refl _)).more (Nat.le_refl _) (by omega)
 have hOlt : ∀ k, (Value.slice A2 n c2).ownBlock = some k → v1.heap.size ≤ k ∧ k < v5.heap.size := fun k hk => O1.own.lt k hk
 have hoffd : Fv.off ⟨z, q⟩ (Value.slice A2 n c2).ownBlock := prows_off (f := ⟨z, q⟩) Rd fun k hk => .inl (hOlt k hk).2
 have b8 := (later j1 (later j2 (later j6 (later j8 jF8))))
 refine stepK (i := 7) (L := #[zT,zT,zT,zT,zT,zT,zT,zT,zF]) rfl (by rfl) (by kernel_rfl) (by rfl) (fun K hK => ?_)
 refine wp_append_rawC (.tmp 8) (.tmp 13) 22 rfl v1.heap.size 68 i0 _ 17 216 Try.underlying22 hi0 hz0 hz1 hz2 rfl (by decide) _ _ _ rfl O8.own _ _ _ 1 1 (cells17 ⟨z, q⟩) rfl hraw (cells17_one _) (by unfold maxLen; omega) (by omega) (by omega) ?_
 intro A3 c3 vF9 hown hg hob
 refine hK _ _ ⟨fun _ _ => fun p hp => (hg.block p (by omega) (fun e => by have := hOlt p e.symm; omega)).trans (Below.block (later j2 (later j6 (later j8 jF8))) p hp), ?_⟩
 clear hK K
 try simp only [Act.put, zp]
 have O9 := O8.push (d := ⟨z, q⟩) (Rd.more (Nat.zero_le _) (Nat.le_refl _)) hoffd hown hg hob
 have b9 : Below w.heap.size w vF9 := b8.grown hg (by omega) (fun k hk => by have := hOlt k hk; omega)
 have r9 : ∀ g ∈ gs ++ [(⟨z, q⟩ : Fv)], PRows vF9 w.heap.size vF9.heap.size g.P := fun g hg' => by
  rcases List.mem_append.1 hg' with h | h
  · exact (prows_grownL (r8 g h) hg (O8.off g h)).more (by omega) (Nat.le_refl _)
  · obtain rfl : g = ⟨z, q⟩ := by simpa using h
    exact (prows_grownL (f := ⟨z, q⟩) Rd hg hoffd).more (by omega) (Nat.le_refl _)
 have O10 := O9.base (b' := w.heap.size) (by omega)
 have t9 := frozenF_yes (z := z) tf.out tq.out
 refine zE 8 #[zT,zT,zT,zT,zT,zT,zT,zT,zT] ?_ rfl ?hy175 ?rest175
 case hy175 => intro w; go_simp; (try with_reducible rfl)
 try simp only [Act.put, zp]
 refine doneE (by kernel_rfl) ?_ _
 clear hown hg hob hraw O8 O9 r8 Rd
 go_wp2
 go_ret
 exact ⟨A3, n + 1, c3, _, rfl, t9, b9, O10, r9⟩
set_option maxHeartbeats 25600000 in
set_option maxRecDepth 100000 in
/-- past.Freeze. -/
theorem Freeze_any (w : World) (A : Option Addr) (n c : Nat) (fs : List Fv) (hL : LFs w 0 w.heap.size A n fs) (z : Int) (p : Pv) (hR : PRows w 0 w.heap.size p) (hn : n ≤ 1028) (hs : ∀ j (h : j < fs.length), (∀ x, x < 4 → (fs[j].P.M.get x).n ≤ 1000000) ∧ fs[j].P.n ≤ 1000000) (hsp : (∀ x, x < 4 → (p.M.get x).n ≤ 1000000) ∧ p.n ≤ 1000000) (k : Int) (hk : freezeF n fs z p = k) :
  Calls Try.prog 24 #[.slice A n c, .int .i64 z, .agg #[.bool p.M.S.s, .slice p.M.S.A p.M.S.n p.M.S.c, .int .i64 p.M.S.e, .bool p.M.W.s, .slice p.M.W.A p.M.W.n p.M.W.c, .int .i64 p.M.W.e, .bool p.M.C.s, .slice p.M.C.A p.M.C.n p.M.C.c, .int .i64 p.M.C.e, .bool p.M.A.s, .slice p.M.A.A p.M.A.n p.M.A.c, .int .i64 p.M.A.e, .bool p.h, .int .i64 p.mn, .int .i64 p.mx, .slice p.A p.n p.c]] w fun e w' => ∃ (A' : Option Addr) (n' c' : Nat) (gs : List Fv), e = .returned (.tuple #[.slice A' n' c', .int .i64 k]) ∧ TwinF (frozenF k fs z p) gs ∧ Below w.heap.size w w' ∧ OwnF w' w.heap.size (.slice A' n' c') n' gs ∧ ∀ g ∈ gs, PRows w' w.heap.size w'.heap.size g.P := by
 obtain ⟨w1, hw, bP, j1, S1⟩ := alloc_p w p
 have lw1 := j1.size
 have HS := Lib.hid hs
 have HSP := Lib.hid hsp
 obtain ⟨c0, hc0⟩ : ∃ c, askF n fs z = c := ⟨_, rfl⟩
 obtain ⟨m, hm⟩ : ∃ c, mayP p = c := ⟨_, rfl⟩
 obtain ⟨i, hi⟩ : ∃ i, (if c0 = 0 then aheadF fs z else 0) = i := ⟨_, rfl⟩
 have HC := Lib.hid (freeze_code hk hc0 hm hi)
 have H0 := Lib.hid hc0
 have HM := Lib.hid hm
 have HI := Lib.hid hi
 have hin : i ≤ n := by
  have := aheadF_le fs z
  rw [hL.len] at this
  rw [← hi]
  split
  · exact this
  · exact Nat.zero_le _
 clear hk hc0 hm hi hs hsp
 obtain ⟨i0, hi0, hz0, hz1, hz2⟩ := info_parts infoF
 go_enter Try.func24, Try.ntmps24
 go_wp2_with fail
 refine (place_any w1 A n c fs (LFs.on hL j1) z c0 H0.out i HI.out).mono ?_
 rintro e' v9 ⟨rfl, j10⟩
 try clear hw
 by_cases h0 : c0 = 0
 rotate_left
 · skip
   obtain rfl := HC.out.1 h0
   have n0 : (k != 0) = true := by simpa using h0
   clear HC H0 HM HI
   go_wp2
   go_ret2
   exact ⟨none, 0, 0, [], rfl, frozenF_no h0 _ _ _, (later j1 j10), OwnF.nil_ _ _, fun _ h => absurd h (by simp)⟩
 · skip
   subst h0
   have HC2 := Lib.hid (HC.out.2.1 rfl)
   have HC3 := Lib.hid (HC.out.2.2.1 rfl)
   have HC4 := Lib.hid (HC.out.2.2.2.1 rfl)
   have HC5 := Lib.hid (HC.out.2.2.2.2 rfl)
   clear HC H0 HI
   have rg_ : v9.rangeAt w.heap.size 0 [.bool p.M.S.s, .slice p.M.S.A p.M.S.n p.M.S.c, .int .i64 p.M.S.e, .bool p.M.W.s, .slice p.M.W.A p.M.W.n p.M.W.c, .int .i64 p.M.W.e, .bool p.M.C.s, .slice p.M.C.A p.M.C.n p.M.C.c, .int .i64 p.M.C.e, .bool p.M.A.s, .slice p.M.A.A p.M.A.n p.M.A.c, .int .i64 p.M.A.e, .bool p.h, .int .i64 p.mn, .int .i64 p.mx, .slice p.A p.n p.c] := PBox.range (box_later bP j10 S1)
   go_wp2_with (first
    | (refine wpList_load_mid rfl 31 (.tmp 5) rfl w.heap.size 0 rfl [.bool p.M.S.s, .slice p.M.S.A p.M.S.n p.M.S.c, .int .i64 p.M.S.e, .bool p.M.W.s, .slice p.M.W.A p.M.W.n p.M.W.c, .int .i64 p.M.W.e, .bool p.M.C.s, .slice p.M.C.A p.M.C.n p.M.C.c, .int .i64 p.M.C.e, .bool p.M.A.s, .slice p.M.A.A p.M.A.n p.M.A.c, .int .i64 p.M.A.e, .bool p.h, .int .i64 p.mn, .int .i64 p.mx, .slice p.A p.n p.c] _ rg_ Try.underlying31 rfl (by kernel_rfl) ?_))
   refine (CheckPart_any v9 p (PRows.on hR (later j1 j10)) m HM.out).mono ?_
   rintro e' v11 ⟨rfl, j12⟩
   try clear hw
   clear rg_
   cases m
   · skip
     obtain rfl := HC2.out rfl
     clear HC2 HC3 HC4 HC5 HM
     go_wp2
     go_ret2
     exact ⟨none, 0, 0, [], rfl, frozenF_no (by decide) _ _ _, (later j1 (later j10 j12)), OwnF.nil_ _ _, fun _ h => absurd h (by simp)⟩
   · skip
     by_cases h1 : i < n
     · skip
       obtain rfl := HC3.out rfl h1
       clear HC2 HC3 HC4 HC5 HM
       go_wp2
       go_ret2
       exact ⟨none, 0, 0, [], rfl, frozenF_no (by decide) _ _ _, (later j1 (later j10 j12)), OwnF.nil_ _ _, fun _ h => absurd h (by simp)⟩
     · skip
       have d1 : decide ((i : Int) < (n : Int)) = false := decide_eq_false (by omega)
       obtain rfl : i = n := by omega
       by_cases h2 : i = 1024
       · skip
         obtain rfl := HC4.out rfl h1 h2
         have e2 : ((i : Int) == 1024) = true := by rw [h2]; rfl
         clear HC2 HC3 HC4 HC5 HM
         go_wp2
         go_ret2
         exact ⟨none, 0, 0, [], rfl, frozenF_no (by decide) _ _ _, (later j1 (later j10 j12)), OwnF.nil_ _ _, fun _ h => absurd h (by simp)⟩
       · skip
         obtain rfl := HC5.out rfl h1 h2
         have e2 : ((i : Int) == 1024) = false := by
          have : (i : Int) ≠ 1024 := by omega
          simpa using this
         clear HC2 HC3 HC4 HC5 HM
         go_wp2_with fail
         try clear hw
         refine region_E (Keeps v11) [] (m := 10) (L := #[zF,zF,zF,zF,zF,zF,zF,zF,zF,zF]) (by kernel_rfl) (by rfl) (by rfl) ?_
         have j14 : Below v11.heap.size v11 v11.drew := (Below.refl _ _).drew
         generalize v11.drew = v13 at *
         refine zE 0 #[zT,zF,zF,zF,zF,zF,zF,zF,zF,zF] ?_ rfl ?hy176 ?rest176
         case hy176 => intro w; go_simp; (try with_reducible rfl)
         try simp only [Act.put, zp]
         refine zE 2 #[zT,zF,zT,zF,zF,zF,zF,zF,zF,zF] ?_ rfl ?hy177 ?rest177
         case hy177 => intro w; go_simp; (try with_reducible rfl)
         try simp only [Act.put, zp]
         have kpy15 : Keeps v11 v13 := fun p hp => Below.block j14 p hp
         refine readE (i := 3) (L := #[zT,zF,zT,zT,zF,zF,zF,zF,zF,zF]) (v := .agg #[.bool p.M.S.s, .slice p.M.S.A p.M.S.n p.M.S.c, .int .i64 p.M.S.e, .bool p.M.W.s, .slice p.M.W.A p.M.W.n p.M.W.c, .int .i64 p.M.W.e, .bool p.M.C.s, .slice p.M.C.A p.M.C.n p.M.C.c, .int .i64 p.M.C.e, .bool p.M.A.s, .slice p.M.A.A p.M.A.n p.M.A.c, .int .i64 p.M.A.e, .bool p.h, .int .i64 p.mn, .int .i64 p.mx, .slice p.A p.n p.c]) rfl (by rfl) (by kernel_rfl) (by kernel_rfl) (by kernel_rfl) (fun _ _ _ h => h) (by assumption) (by rfl) ?y15 ?z16
         case y15 =>
          intro w' h1
          exact run_load_op 31 (.tmp 5) rfl (w.heap.size) 0 rfl (cells16 p) _ (PBox.range ((h1 _ (Nat.lt_of_lt_of_le S1 (Below.size (later j10 j12)))).trans (box_later bP (later j10 j12) S1))) Try.underlying31 rfl (by kernel_rfl)
         try simp only [Act.put, zp]
         refine stepK (i := 1) (L := #[zT,zT,zT,zT,zF,zF,zF,zF,zF,zF]) rfl (by rfl) (by kernel_rfl) (by rfl) (fun K hK => ?_)
         go_simp
         go_at_call 16
         refine (TwinF_any v13 A i c fs (LFs.on hL (later j1 (later j10 (later j12 j14)))) hn HS.out).mono ?_
         rintro e' v17 ⟨A2, c2, gs, rfl, tf, j18, O1, r1⟩
         replace tf := Lib.hid tf
         refine hK _ _ ⟨fun _ _ => fun p hp => Below.block (later j14 j18) p hp, ?_⟩
         clear hK K
         try simp only [Act.put, zp]
         refine stepK (i := 4) (L := #[zT,zT,zT,zT,zT,zF,zF,zF,zF,zF]) rfl (by rfl) (by kernel_rfl) (by rfl) (fun K hK => ?_)
         go_simp
         go_at_call 17
         refine (TwinPart_any v17 p (PRows.on hR (later j1 (later j10 (later j12 (later j14 j18))))) HSP.out.1 HSP.out.2).mono ?_
         rintro e' v19 ⟨q, rfl, tq, j20, Rq⟩
         replace tq := Lib.hid tq
         refine hK _ _ ⟨fun _ _ => fun p hp => Below.block (later j14 (later j18 j20)) p hp, ?_⟩
         clear hK K
         try simp only [Act.put, zp]
         refine zE 5 #[zT,zT,zT,zT,zT,zT,zF,zF,zF,zF] ?_ rfl ?hy181 ?rest181
         case hy181 => intro w; go_simp; (try with_reducible rfl)
         try simp only [Act.put, zp]
         have sz1 : v11.heap.size ≤ v13.heap.size := Below.size j14
         have sz0 : w.heap.size ≤ v11.heap.size := Below.size (later j1 (later j10 j12))
         have sz2 : v13.heap.size ≤ v17.heap.size := Below.size j18
         have sz3 : v17.heap.size ≤ v19.heap.size := Below.size j20
         obtain ⟨vF8, hv⟩ : ∃ U, v19.alloc (.cells #[.int .i64 z, .bool q.M.S.s, .slice q.M.S.A q.M.S.n q.M.S.c, .int .i64 q.M.S.e, .bool q.M.W.s, .slice q.M.W.A q.M.W.n q.M.W.c, .int .i64 q.M.W.e, .bool q.M.C.s, .slice q.M.C.A q.M.C.n q.M.C.c, .int .i64 q.M.C.e, .bool q.M.A.s, .slice q.M.A.A q.M.A.n q.M.A.c, .int .i64 q.M.A.e, .bool q.h, .int .i64 q.mn, .int .i64 q.mx, .slice q.A q.n q.c] 68) = U := ⟨_, rfl⟩
         have jF8 : Below v19.heap.size v19 vF8 := by rw [← hv]; exact (Below.refl _ _).alloc (Nat.le_refl _) _
         have sz4 : v19.heap.size < vF8.heap.size := by rw [← hv]; simp
         have hraw := raw_oneF v19 (⟨z, q⟩ : Fv) hv
         refine stepK (i := 6) (L := #[zT,zT,zT,zT,zT,zT,zT,zF,zF,zF]) rfl (by rfl) (by kernel_rfl) (by rfl) (fun K hK => ?_)
         go_simp
         try rw [hv]
         refine hK _ _ ⟨fun _ _ => fun p hp => Below.block (later j14 (later j18 (later j20 jF8))) p hp, ?_⟩
         clear hK K
         try clear hv
         try simp only [Act.put, zp]
         have O8 := (OwnF.on O1 (later j20 jF8))
         have r8 : ∀ g ∈ gs, PRows vF8 v13.heap.size vF8.heap.size g.P := fun g hg => ((r1 g hg).below (later j20 jF8) (Nat.le_refl _)).more (Nat.le_refl _) (by omega)
         have Rd : PRows vF8 v17.heap.size vF8.heap.size q := (Rq.below jF8 (Nat.le_refl _)).more (Nat.le_refl _) (by omega)
         have hOlt : ∀ k, (Value.slice A2 i c2).ownBlock = some k → v13.heap.size ≤ k ∧ k < v17.heap.size := fun k hk => O1.own.lt k hk
         have hoffd : Fv.off ⟨z, q⟩ (Value.slice A2 i c2).ownBlock := prows_off (f := ⟨z, q⟩) Rd fun k hk => .inl (hOlt k hk).2
         have b8 := (later j1 (later j10 (later j12 (later j14 (later j18 (later j20 jF8))))))
         refine stepK (i := 7) (L := #[zT,zT,zT,zT,zT,zT,zT,zT,zF,zF]) rfl (by rfl) (by kernel_rfl) (by rfl) (fun K hK => ?_)
         refine wp_append_rawC (.tmp 33) (.tmp 38) 22 rfl v13.heap.size 68 i0 _ 17 216 Try.underlying22 hi0 hz0 hz1 hz2 rfl (by decide) _ _ _ rfl O8.own _ _ _ 1 1 (cells17 ⟨z, q⟩) rfl hraw (cells17_one _) (by unfold maxLen; omega) (by omega) (by omega) ?_
         intro A3 c3 vF9 hown hg hob
         refine hK _ _ ⟨fun _ _ => fun p hp => (hg.block p (by omega) (fun e => by have := hOlt p e.symm; omega)).trans (Below.block (later j14 (later j18 (later j20 jF8))) p hp), ?_⟩
         clear hK K
         try simp only [Act.put, zp]
         have O9 := O8.push (d := ⟨z, q⟩) (Rd.more (Nat.zero_le _) (Nat.le_refl _)) hoffd hown hg hob
         have b9 : Below w.heap.size w vF9 := b8.grown hg (by omega) (fun k hk => by have := hOlt k hk; omega)
         have r9 : ∀ g ∈ gs ++ [(⟨z, q⟩ : Fv)], PRows vF9 w.heap.size vF9.heap.size g.P := fun g hg' => by
          rcases List.mem_append.1 hg' with h | h
          · exact (prows_grownL (r8 g h) hg (O8.off g h)).more (by omega) (Nat.le_refl _)
          · obtain rfl : g = ⟨z, q⟩ := by simpa using h
            exact (prows_grownL (f := ⟨z, q⟩) Rd hg hoffd).more (by omega) (Nat.le_refl _)
         have O10 := O9.base (b' := w.heap.size) (by omega)
         have t9 := frozenF_yes (z := z) tf.out tq.out
         refine zE 8 #[zT,zT,zT,zT,zT,zT,zT,zT,zT,zF] ?_ rfl ?hy184 ?rest184
         case hy184 => intro w; go_simp; (try with_reducible rfl)
         try simp only [Act.put, zp]
         refine zE 9 #[zT,zT,zT,zT,zT,zT,zT,zT,zT,zT] ?_ rfl ?hy185 ?rest185
         case hy185 => intro w; go_simp; (try with_reducible rfl)
         try simp only [Act.put, zp]
         refine doneE (by kernel_rfl) ?_ _
         clear hown hg hob hraw O8 O9 r8 Rd
         go_wp2
         go_ret2
         exact ⟨A3, i + 1, c3, _, rfl, t9, b9, O10, r9⟩
set_option maxHeartbeats 25600000 in
set_option maxRecDepth 100000 in
/-- headcountref20.Freeze. -/
theorem RFreeze_any (w : World) (A : Option Addr) (n c : Nat) (fs : List Fv) (hL : LFs w 0 w.heap.size A n fs) (z : Int) (p : Pv) (hR : PRows w 0 w.heap.size p) (hn : n ≤ 1028) (hs : ∀ j (h : j < fs.length), (∀ x, x < 4 → (fs[j].P.M.get x).n ≤ 1000000) ∧ fs[j].P.n ≤ 1000000) (hsp : (∀ x, x < 4 → (p.M.get x).n ≤ 1000000) ∧ p.n ≤ 1000000) (k : Int) (hk : freezeF n fs z p = k) :
  Calls Try.prog 25 #[.slice A n c, .int .i64 z, .agg #[.bool p.M.S.s, .slice p.M.S.A p.M.S.n p.M.S.c, .int .i64 p.M.S.e, .bool p.M.W.s, .slice p.M.W.A p.M.W.n p.M.W.c, .int .i64 p.M.W.e, .bool p.M.C.s, .slice p.M.C.A p.M.C.n p.M.C.c, .int .i64 p.M.C.e, .bool p.M.A.s, .slice p.M.A.A p.M.A.n p.M.A.c, .int .i64 p.M.A.e, .bool p.h, .int .i64 p.mn, .int .i64 p.mx, .slice p.A p.n p.c]] w fun e w' => ∃ (A' : Option Addr) (n' c' : Nat) (gs : List Fv), e = .returned (.tuple #[.slice A' n' c', .int .i64 k]) ∧ TwinF (frozenF k fs z p) gs ∧ Below w.heap.size w w' ∧ OwnF w' w.heap.size (.slice A' n' c') n' gs ∧ ∀ g ∈ gs, PRows w' w.heap.size w'.heap.size g.P := by
 obtain ⟨w1, hw, bP, j1, S1⟩ := alloc_p w p
 have lw1 := j1.size
 have HS := Lib.hid hs
 have HSP := Lib.hid hsp
 have HL := Lib.hid hL.len
 obtain ⟨c0, hc0⟩ : ∃ c, askF n fs z = c := ⟨_, rfl⟩
 obtain ⟨m, hm⟩ : ∃ c, mayP p = c := ⟨_, rfl⟩
 obtain ⟨i, hi⟩ : ∃ i, (if c0 = 0 then aheadF fs z else 0) = i := ⟨_, rfl⟩
 have HC := Lib.hid (freeze_code hk hc0 hm hi)
 have H0 := Lib.hid hc0
 have HM := Lib.hid hm
 have HI := Lib.hid hi
 clear hk hc0 hm hi hs hsp
 go_enter Try.func25, Try.ntmps25
 go_wp2_with fail
 refine (rAsked_any w1 A n c fs (LFs.on hL j1) z c0 H0.out).mono ?_
 rintro e' v21 ⟨rfl, j22⟩
 try clear hw
 by_cases h0 : c0 = 0
 rotate_left
 · skip
   obtain rfl := HC.out.1 h0
   have n0 : (k != 0) = true := by simpa using h0
   clear HC H0 HM HI
   go_wp2
   go_ret2
   exact ⟨none, 0, 0, [], rfl, frozenF_no h0 _ _ _, (later j1 j22), OwnF.nil_ _ _, fun _ h => absurd h (by simp)⟩
 · skip
   subst h0
   have HC2 := Lib.hid (HC.out.2.1 rfl)
   have HC3 := Lib.hid (HC.out.2.2.1 rfl)
   have HC4 := Lib.hid (HC.out.2.2.2.1 rfl)
   have HC5 := Lib.hid (HC.out.2.2.2.2 rfl)
   have HI2 : Hid (i < n ↔ 0 < n ∧ ∀ h : n - 1 < fs.length, z ≤ fs[n - 1].e) := Lib.hid (by
    have h1 := HI.out
    rw [if_pos rfl] at h1
    rw [← h1]
    exact ahead_last (askF_zero H0.out).2.1 HL.out)
   have hn4 := (askF_zero H0.out).1
   clear HC H0 HI
   have rg_ : v21.rangeAt w.heap.size 0 [.bool p.M.S.s, .slice p.M.S.A p.M.S.n p.M.S.c, .int .i64 p.M.S.e, .bool p.M.W.s, .slice p.M.W.A p.M.W.n p.M.W.c, .int .i64 p.M.W.e, .bool p.M.C.s, .slice p.M.C.A p.M.C.n p.M.C.c, .int .i64 p.M.C.e, .bool p.M.A.s, .slice p.M.A.A p.M.A.n p.M.A.c, .int .i64 p.M.A.e, .bool p.h, .int .i64 p.mn, .int .i64 p.mx, .slice p.A p.n p.c] := PBox.range (box_later bP j22 S1)
   go_wp2_with (first
    | (refine wpList_load_mid rfl 31 (.tmp 5) rfl w.heap.size 0 rfl [.bool p.M.S.s, .slice p.M.S.A p.M.S.n p.M.S.c, .int .i64 p.M.S.e, .bool p.M.W.s, .slice p.M.W.A p.M.W.n p.M.W.c, .int .i64 p.M.W.e, .bool p.M.C.s, .slice p.M.C.A p.M.C.n p.M.C.c, .int .i64 p.M.C.e, .bool p.M.A.s, .slice p.M.A.A p.M.A.n p.M.A.c, .int .i64 p.M.A.e, .bool p.h, .int .i64 p.mn, .int .i64 p.mx, .slice p.A p.n p.c] _ rg_ Try.underlying31 rfl (by kernel_rfl) ?_))
   refine (MayPart_any v21 p (PRows.on hR (later j1 j22)) m HM.out).mono ?_
   rintro e' v23 ⟨rfl, j24⟩
   try clear hw
   clear rg_
   cases m
   · skip
     obtain rfl := HC2.out rfl
     clear HC2 HC3 HC4 HC5 HM HI2
     go_wp2
     go_ret2
     exact ⟨none, 0, 0, [], rfl, frozenF_no (by decide) _ _ _, (later j1 (later j22 j24)), OwnF.nil_ _ _, fun _ h => absurd h (by simp)⟩
   · skip
     have rgP : v23.rangeAt w.heap.size 0 [.bool p.M.S.s, .slice p.M.S.A p.M.S.n p.M.S.c, .int .i64 p.M.S.e, .bool p.M.W.s, .slice p.M.W.A p.M.W.n p.M.W.c, .int .i64 p.M.W.e, .bool p.M.C.s, .slice p.M.C.A p.M.C.n p.M.C.c, .int .i64 p.M.C.e, .bool p.M.A.s, .slice p.M.A.A p.M.A.n p.M.A.c, .int .i64 p.M.A.e, .bool p.h, .int .i64 p.mn, .int .i64 p.mx, .slice p.A p.n p.c] := PBox.range (box_later bP (later j22 j24) S1)
     by_cases hn0 : 0 < n
     rotate_left
     · skip
       have h1 : ¬ i < n := by omega
       have d0 : decide ((0 : Int) < (n : Int)) = false := decide_eq_false (by omega)
       by_cases h2 : n = 1024
       · skip
         obtain rfl := HC4.out rfl h1 h2
         have e2 : (1024 : Int) ≤ (n : Int) := by omega
         clear h2 HC2 HC3 HC4 HC5 HM HI2
         go_wp2
         go_ret2
         exact ⟨none, 0, 0, [], rfl, frozenF_no (by decide) _ _ _, (later j1 (later j22 j24)), OwnF.nil_ _ _, fun _ h => absurd h (by simp)⟩
       · skip
         obtain rfl := HC5.out rfl h1 h2
         have e2 : decide ((1024 : Int) ≤ (n : Int)) = false := decide_eq_false (by omega)
         clear HC2 HC3 HC4 HC5 HM HI2
         go_wp2_with (first
          | (refine wpList_load_mid rfl 31 (.tmp 5) rfl w.heap.size 0 rfl [.bool p.M.S.s, .slice p.M.S.A p.M.S.n p.M.S.c, .int .i64 p.M.S.e, .bool p.M.W.s, .slice p.M.W.A p.M.W.n p.M.W.c, .int .i64 p.M.W.e, .bool p.M.C.s, .slice p.M.C.A p.M.C.n p.M.C.c, .int .i64 p.M.C.e, .bool p.M.A.s, .slice p.M.A.A p.M.A.n p.M.A.c, .int .i64 p.M.A.e, .bool p.h, .int .i64 p.mn, .int .i64 p.mx, .slice p.A p.n p.c] _ rgP Try.underlying31 rfl (by kernel_rfl) ?_))
         refine (RFrozen_any v23 A n c fs (LFs.on hL (later j1 (later j22 j24))) z p (PRows.on hR (later j1 (later j22 j24))) hn HS.out HSP.out).mono ?_
         rintro e' vF9 ⟨A3, n3, c3, gs, rfl, t9, jF9, O9, r9⟩
         clear rgP
         have lw9 : w.heap.size ≤ v23.heap.size := (Below.size (later j1 (later j22 j24)))
         have b9 := ((later j1 (later j22 j24))).trans (jF9.mono lw9)
         go_wp2
         go_ret2
         exact ⟨A3, n3, c3, gs, rfl, t9, b9, O9.base lw9, fun g hg => (r9 g hg).more lw9 (Nat.le_refl _)⟩
     · skip
       have hl2 : n - 1 < fs.length := by have := HL.out; omega
       obtain ⟨b, off, hA, hb1, hb2, hc⟩ := ((LFs.on hL (later j1 (later j22 j24)))).row hn0
       have hci := Lib.hid (hc (n - 1) hl2)
       obtain ⟨f, hf⟩ : ∃ f, fs[n - 1] = f := ⟨_, rfl⟩
       have HI3 : Hid (i < n ↔ z ≤ f.e) := Lib.hid (by
        rw [HI2.out, ← hf]
        exact ⟨fun h => h.2 hl2, fun h => ⟨hn0, fun _ => h⟩⟩)
       rw [hf] at hci
       clear hc hf
       subst hA
       have k_ := hci.out.1
       have hwm : IntKind.i64.wrap ((n : Int) - 1) = ((n - 1 : Nat) : Int) := by rw [IntKind.wrap_i64]; omega
       have hil : n - 1 < n := by omega
       have g0 : (0 : Int) < (n : Int) := by omega
       by_cases h3 : z ≤ f.e
       · skip
         obtain rfl := HC3.out rfl (HI3.out.2 h3)
         clear HC2 HC3 HC4 HC5 HM HI2 HI3
         go_wp2
         go_ret2
         exact ⟨none, 0, 0, [], rfl, frozenF_no (by decide) _ _ _, (later j1 (later j22 j24)), OwnF.nil_ _ _, fun _ h => absurd h (by simp)⟩
       · skip
         have h1 : ¬ i < n := fun h => h3 (HI3.out.1 h)
         have d3 : decide (z ≤ f.e) = false := decide_eq_false h3
         by_cases h2 : n = 1024
         · skip
           obtain rfl := HC4.out rfl h1 h2
           have e2 : (1024 : Int) ≤ (n : Int) := by omega
           clear h2 HC2 HC3 HC4 HC5 HM HI2 HI3
           go_wp2
           go_ret2
           exact ⟨none, 0, 0, [], rfl, frozenF_no (by decide) _ _ _, (later j1 (later j22 j24)), OwnF.nil_ _ _, fun _ h => absurd h (by simp)⟩
         · skip
           obtain rfl := HC5.out rfl h1 h2
           have e2 : decide ((1024 : Int) ≤ (n : Int)) = false := decide_eq_false (by omega)
           clear HC2 HC3 HC4 HC5 HM HI2 HI3
           go_wp2_with (first
            | (refine wpList_load_mid rfl 31 (.tmp 5) rfl w.heap.size 0 rfl [.bool p.M.S.s, .slice p.M.S.A p.M.S.n p.M.S.c, .int .i64 p.M.S.e, .bool p.M.W.s, .slice p.M.W.A p.M.W.n p.M.W.c, .int .i64 p.M.W.e, .bool p.M.C.s, .slice p.M.C.A p.M.C.n p.M.C.c, .int .i64 p.M.C.e, .bool p.M.A.s, .slice p.M.A.A p.M.A.n p.M.A.c, .int .i64 p.M.A.e, .bool p.h, .int .i64 p.mn, .int .i64 p.mx, .slice p.A p.n p.c] _ rgP Try.underlying31 rfl (by kernel_rfl) ?_))
           refine (RFrozen_any v23 _ n c fs (LFs.on hL (later j1 (later j22 j24))) z p (PRows.on hR (later j1 (later j22 j24))) hn HS.out HSP.out).mono ?_
           rintro e' vF9 ⟨A3, n3, c3, gs, rfl, t9, jF9, O9, r9⟩
           clear rgP
           have lw9 : w.heap.size ≤ v23.heap.size := (Below.size (later j1 (later j22 j24)))
           have b9 := ((later j1 (later j22 j24))).trans (jF9.mono lw9)
           go_wp2
           go_ret2
           exact ⟨A3, n3, c3, gs, rfl, t9, b9, O9.base lw9, fun g hg => (r9 g hg).more lw9 (Nat.le_refl _)⟩
end Ma
end Go.Proofs.Ytbbnbgllgomolaa