/- headcountref20: parts that are great, the same, copied: walks (printed by a program of mine). -/
import Derived.Test.YtmbppgjhdcmckaaDoorPsBase
import Derived.Test.YtmbppgjhdcmckaaDoorPaTags
import Derived.Test.YtmbppgjhdcmckaaDoorPsSame
namespace Go.Proofs.YtmbppgjhdcmckaaDoor
open Go.RowKit
namespace Ma
open Dp Dy
set_option maxHeartbeats 6400000 in
set_option maxRecDepth 100000 in
/-- headcountref20.GreatPart. -/
theorem GreatPart_any (w : World) (p : Pv) (hR : PRows w 0 w.heap.size p) (k : Bool) (hk : greatP p = k) :
    Calls Tryd.prog 7 #[.agg #[.bool p.M.S.s, .slice p.M.S.A p.M.S.n p.M.S.c, .int .i64 p.M.S.e, .bool p.M.W.s, .slice p.M.W.A p.M.W.n p.M.W.c, .int .i64 p.M.W.e, .bool p.M.C.s, .slice p.M.C.A p.M.C.n p.M.C.c, .int .i64 p.M.C.e, .bool p.M.A.s, .slice p.M.A.A p.M.A.n p.M.A.c, .int .i64 p.M.A.e, .bool p.h, .int .i64 p.mn, .int .i64 p.mx, .slice p.A p.n p.c]] w fun e w' => e = .returned (.bool k) ∧ Below w.heap.size w w' := by
  obtain ⟨w1, hw, bP, j1, S1⟩ := alloc_p w p
  obtain ⟨q, hq⟩ : ∃ q, greatM p.M = q := ⟨_, rfl⟩
  have HQ := Lib.hid hq
  have HK := Lib.hid hk
  clear hq hk
  go_enter Tryd.func7, Tryd.ntmps7
  obtain ⟨⟨q1_0, q1_1, q1_2, q1_3, q1_4, q1_5, q1_6, q1_7, q1_8, q1_9, q1_10, q1_11, q1_12, q1_13, q1_14, q1_15⟩, q1f⟩ := PBox.cell bP
  go_wp2_with fail
  refine (RGreat_any w1 p.M (PRows.on hR j1).M q HQ.out).mono ?_
  rintro e' v2 ⟨rfl, j3⟩
  clear q1_0 q1_1 q1_2 q1_3 q1_4 q1_5 q1_6 q1_7 q1_8 q1_9 q1_10 q1_11 q1_12 q1_13 q1_14 q1_15 q1f
  try clear hw
  obtain ⟨⟨q4_0, q4_1, q4_2, q4_3, q4_4, q4_5, q4_6, q4_7, q4_8, q4_9, q4_10, q4_11, q4_12, q4_13, q4_14, q4_15⟩, q4f⟩ := PBox.cell (box_later bP j3 S1)
  cases q
  rotate_left
  · skip
    have hk' : k = true := by rw [← HK.out, greatP, HQ.out]; rfl
    subst hk'
    clear HK HQ
    go_wp2
    go_ret
    exact ⟨rfl, (later j1 j3)⟩
  · skip
    by_cases hn : (70 : Int) < (p.n : Int)
    · skip
      have hk' : k = true := by rw [← HK.out, greatP, HQ.out, decide_eq_true (show 70 < p.n by omega)]; rfl
      subst hk'
      clear HK HQ
      go_wp2
      go_ret
      exact ⟨rfl, (later j1 j3)⟩
    · skip
      have hk' : k = false := by rw [← HK.out, greatP, HQ.out, decide_eq_false (show ¬ 70 < p.n by omega)]; rfl
      subst hk'
      clear HK HQ
      have hnb : decide ((70 : Int) < (p.n : Int)) = false := decide_eq_false hn
      clear hn
      go_wp2
      go_ret
      exact ⟨rfl, (later j1 j3)⟩
end Ma
end Go.Proofs.YtmbppgjhdcmckaaDoor
