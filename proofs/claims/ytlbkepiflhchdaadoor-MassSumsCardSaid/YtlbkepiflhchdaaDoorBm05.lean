/- A limb of a number that is shifted to the right: walks. -/
import Derived.Test.YtlbkepiflhchdaaDoorBm04
namespace Go.Proofs.YtlbkepiflhchdaaDoor
open Go.RowKit
namespace Dy
open Dp
/-- Numbers under way are added. -/
theorem add_any (w : World) (g : Nat) (s t : Bool) (L : Value) (ex : Int) (ws us : List Int) (hS : Sum w g s L ex ws) (hg : g < w.heap.size) (hul : us.length = 74) (hud : Dig 4294967296 us) (hlt : num 4294967296 ws + num 4294967296 us < 4294967296 ^ 74)
    (sr : Bool) (mr : Nat) (h : plusS s (num 4294967296 ws) t (num 4294967296 us) = (sr, mr)) :
    Calls Tryd.prog 63 #[.pointer (some ⟨g, 0, none⟩), .bool t, .agg (rowU us)] w fun e w' => e = .returned (.tuple #[]) ∧ OnlyAt g w w' ∧ ∃ vs, Sum w' g sr L ex vs ∧ num 4294967296 vs = mr := by
  unfold plusS at h
  by_cases hst : s = t
  · subst hst
    rw [if_pos rfl] at h
    injection h with h1 h2
    subst h1 h2
    exact add_like w g s L ex ws us hS hg hul hud hlt
  · rw [if_neg hst] at h
    by_cases hle : num 4294967296 us ≤ num 4294967296 ws
    · rw [if_pos hle] at h
      injection h with h1 h2
      subst h1 h2
      exact add_more w g s t hst L ex ws us hS hg hul hud hle
    · rw [if_neg hle] at h
      injection h with h1 h2
      subst h1 h2
      exact add_less w g s t hst L ex ws us hS hg hul hud (by omega)
set_option maxRecDepth 100000 in
/-- (*dyad.sum).at$1. -/
theorem at1_any (w : World) (b g : Nat) (ws : List Int) (hb : w.cell? ⟨b, 0, none⟩ = some (.pointer (some ⟨g, 0, none⟩))) (hR : Row w g 3 ws) (i : Nat) (ii : Int) (hii : ii = i) (hi : i ≤ 100000) (d : Nat) (hd : ws[i]?.getD 0 = (d : Int)) :
    Calls Tryd.prog 111 #[.int .i64 ii, .pointer (some ⟨b, 0, none⟩)] w fun e w' => e = .returned (.int .u64 d) ∧ w' = w := by
  subst hii
  by_cases hlt : i < 74
  · have c1 := hR.cell i hlt
    rw [hd] at c1
    have hd2 : d < 4294967296 := by
      obtain ⟨d', h1, h2⟩ := dig_get (by decide) hR.dig i
      rw [hd] at h1
      rw [Int.ofNat.inj h1]
      exact h2
    clear hd
    go_enter Tryd.func111, Tryd.ntmps111
    go_wp2
    go_ret
    exact ⟨rfl, rfl⟩
  · have h0 : d = 0 := by
      rw [List.getElem?_eq_none (by rw [hR.len]; omega)] at hd
      exact (Int.ofNat.inj hd).symm
    subst h0
    clear hd
    go_enter Tryd.func111, Tryd.ntmps111
    go_wp2
    go_ret
    exact ⟨rfl, rfl⟩
theorem cast_dm0 (M r c : Nat) : (M : Int) / 2 ^ r % (c : Int) = ((M / 2 ^ r % c : Nat) : Int) := by push_cast; rfl
theorem cast_dm (M r : Nat) : (M : Int) / 2 ^ r % 4294967296 = ((M / 2 ^ r % 4294967296 : Nat) : Int) := cast_dm0 M r 4294967296
set_option maxHeartbeats 800000 in
set_option maxRecDepth 100000 in
/-- (*dyad.sum).at. -/
theorem at_any (w : World) (g : Nat) (hg : g < w.heap.size) (ws : List Int) (hR : Row w g 3 ws) (i k : Nat) (ii kk : Int) (hii : ii = i) (hkk : kk = k) (hi : i ≤ 100) (hk : k ≤ 3000) (d : Nat) (hd : num 4294967296 ws / 2 ^ k / 4294967296 ^ i % 4294967296 = d) :
    Calls Tryd.prog 94 #[.pointer (some ⟨g, 0, none⟩), .int .i64 ii, .int .i64 kk] w fun e w' => e = .returned (.int .u32 d) ∧ w' = w.alloc (.cells #[.pointer (some ⟨g, 0, none⟩)] 77) := by
  subst hii hkk
  have hmf : ∀ (fn : Fn) (first cap : Array Value) (w : World), (Instr.makeFunc fn first cap).run Tryd.prog w = .ok (.func fn first cap) w := fun _ _ _ _ => rfl
  obtain ⟨x, hx, hx2⟩ := dig_get (by decide) hR.dig (i + k / 32 + 1)
  obtain ⟨y, hy, hy2⟩ := dig_get (by decide) hR.dig (i + k / 32)
  have hlaw := at_limb hR.dig i k x y hx hy
  rw [hd] at hlaw
  have HX := Lib.hid hx
  have HY := Lib.hid hy
  have HL := Lib.hid hlaw
  clear hx hy hlaw hd
  have hR2 := hR.keep (w' := w.alloc (.cells #[.pointer (some ⟨g, 0, none⟩)] 77)) fun j _ => ⟨World.cell?_alloc_lt _ _ _ hg, World.frozen?_alloc_past _ _ _ hg⟩
  go_enter Tryd.func94, Tryd.ntmps94
  go_wp2_with fail
  refine (at1_any _ _ g ws (by simp) hR2 (i + k / 32 + 1) _ (by omega) (by omega) x HX.out).mono ?_
  rintro e w1 ⟨rfl, rfl⟩
  go_wp2_with fail
  refine (at1_any _ _ g ws (by simp) hR2 (i + k / 32) _ (by omega) (by omega) y HY.out).mono ?_
  rintro e w1 ⟨rfl, rfl⟩
  go_wp2
  go_ret
  refine ⟨ret_int ?_, rfl⟩
  have e1 : bits BinOp.or IntKind.u64 ((x : Int) * 4294967296) (y : Int) = ((x * 4294967296 + y : Nat) : Int) := by
    have := u64_or_nat (x * 4294967296) y (by omega) (by omega)
    rw [nat_join 32 _ _ (by omega) (by omega)] at this
    rw [← this]
    congr 1
  have h2 := HL.out
  rw [e1]
  rw [cast_dm, h2]
end Dy
end Go.Proofs.YtlbkepiflhchdaaDoor
