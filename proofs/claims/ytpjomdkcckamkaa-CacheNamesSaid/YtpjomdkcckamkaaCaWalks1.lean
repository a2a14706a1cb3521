/- Caches: new ones; lists laid end to end: walks. -/
import Derived.Test.YtpjomdkcckamkaaDeRef4
import Derived.Test.YtpjomdkcckamkaaCaPure
namespace Go.Proofs.Ytpjomdkcckamkaa
open Go.RowKit Go.Sort Go.Shelf
namespace De
/-- What New answers. -/
def newR (own cap : Int) : (Int × Int) × Int := if newOk own cap = true then ((own, cap), 0) else ((0, 0), 2)
set_option maxHeartbeats 800000 in
/-- cache.New. -/
theorem New_any (w : World) (own cap : Int) (x y r : Int) (hr : newR own cap = ((x, y), r)) :
    Calls Try.prog 35 #[.int .i64 own, .int .i64 cap] w fun e w' => e = .returned (.tuple #[.agg #[.int .i64 x, .int .i64 y, .slice none 0 0], .int .i64 r]) ∧ Gr w w' := by
  have HR := Lib.hid hr
  clear hr
  by_cases h1 : 0 ≤ own
  · by_cases h2 : own < 8
    · by_cases h3 : 1 ≤ cap
      · by_cases h4 : cap ≤ 6
        · have e : ((x, y), r) = ((own, cap), (0 : Int)) := by rw [← HR.out, newR, if_pos ((newOk_iff own cap).2 ⟨h1, h2, h3, h4⟩)]
          obtain ⟨e1, rfl⟩ := Prod.mk.inj e
          obtain ⟨rfl, rfl⟩ := Prod.mk.inj e1
          clear e e1 HR
          go_enter Try.func35, Try.ntmps35
          go_wp2
          exact bodyPost_ret (v := .tuple #[.agg #[.int .i64 x, .int .i64 y, .slice none 0 0], .int .i64 0]) (by simp [results, Try.results35, go_sem]) rfl ⟨rfl, Gr.alloc (Gr.refl _) _⟩
        · have e : ((x, y), r) = (((0 : Int), (0 : Int)), (2 : Int)) := by rw [← HR.out, newR, if_neg (fun h => by have := (newOk_iff own cap).1 h; omega)]
          obtain ⟨e1, rfl⟩ := Prod.mk.inj e
          obtain ⟨rfl, rfl⟩ := Prod.mk.inj e1
          clear e e1 HR
          go_enter Try.func35, Try.ntmps35
          go_wp2
          exact bodyPost_ret (v := .tuple #[.agg #[.int .i64 0, .int .i64 0, .slice none 0 0], .int .i64 2]) (by simp [results, Try.results35, go_sem]) rfl ⟨rfl, Gr.alloc (Gr.refl _) _⟩
      · have e : ((x, y), r) = (((0 : Int), (0 : Int)), (2 : Int)) := by rw [← HR.out, newR, if_neg (fun h => by have := (newOk_iff own cap).1 h; omega)]
        obtain ⟨e1, rfl⟩ := Prod.mk.inj e
        obtain ⟨rfl, rfl⟩ := Prod.mk.inj e1
        clear e e1 HR
        go_enter Try.func35, Try.ntmps35
        go_wp2
        exact bodyPost_ret (v := .tuple #[.agg #[.int .i64 0, .int .i64 0, .slice none 0 0], .int .i64 2]) (by simp [results, Try.results35, go_sem]) rfl ⟨rfl, Gr.alloc (Gr.refl _) _⟩
    · have e : ((x, y), r) = (((0 : Int), (0 : Int)), (2 : Int)) := by rw [← HR.out, newR, if_neg (fun h => by have := (newOk_iff own cap).1 h; omega)]
      obtain ⟨e1, rfl⟩ := Prod.mk.inj e
      obtain ⟨rfl, rfl⟩ := Prod.mk.inj e1
      clear e e1 HR
      go_enter Try.func35, Try.ntmps35
      go_wp2
      exact bodyPost_ret (v := .tuple #[.agg #[.int .i64 0, .int .i64 0, .slice none 0 0], .int .i64 2]) (by simp [results, Try.results35, go_sem]) rfl ⟨rfl, Gr.alloc (Gr.refl _) _⟩
  · have e : ((x, y), r) = (((0 : Int), (0 : Int)), (2 : Int)) := by rw [← HR.out, newR, if_neg (fun h => by have := (newOk_iff own cap).1 h; omega)]
    obtain ⟨e1, rfl⟩ := Prod.mk.inj e
    obtain ⟨rfl, rfl⟩ := Prod.mk.inj e1
    clear e e1 HR
    go_enter Try.func35, Try.ntmps35
    go_wp2
    exact bodyPost_ret (v := .tuple #[.agg #[.int .i64 0, .int .i64 0, .slice none 0 0], .int .i64 2]) (by simp [results, Try.results35, go_sem]) rfl ⟨rfl, Gr.alloc (Gr.refl _) _⟩

set_option maxHeartbeats 400000 in
/-- cache.best's closure: is one of the cache's own node? -/
theorem isOwn_any (w : World) (x y own : Int) (kb : Nat) (hk : w.cell? ⟨kb, 0, none⟩ = some (.int .i64 own)) (hlt : kb < w.heap.size) (b : Bool) (hb : (x == own) = b) :
    Calls Try.prog 82 #[.agg #[.int .i64 x, .int .i64 y], .pointer (some ⟨kb, 0, none⟩)] w fun e w' => e = .returned (.bool b) ∧ Gr w w' := by
  have HB := Lib.hid hb
  have hk2 : (w.alloc (.cells #[.int .i64 x, .int .i64 y] 29)).cell? ⟨kb, 0, none⟩ = some (.int .i64 own) := (World.cell?_alloc_lt _ _ _ (show kb < w.heap.size from hlt)).trans hk
  clear hb
  go_enter Try.func82, Try.ntmps82
  go_wp2
  go_ret
  exact ⟨by rw [← HB.out]; rfl, Gr.alloc (Gr.refl _) _⟩
theorem own_pred (base rb kb : Nat) (own : Int) (hne : kb ≠ rb) : PredS 82 #[.pointer (some ⟨kb, 0, none⟩)] base rb none (fun W (_ : Unit) => W.cell? ⟨kb, 0, none⟩ = some (.int .i64 own) ∧ kb < W.heap.size) (fun _ => True) (fun _ x => x.1 == own) (fun _ _ => ()) where
  enters := enters_of Try.func82 (by kernel_rfl) rfl
  row_ _ h := by cases h
  lt _ _ _ h _ := by cases h
  call W s x _ _ hi _ _ := (isOwn_any W x.1 x.2 own kb hi.1 hi.2 _ rfl).mono fun e w' ⟨he, hg⟩ => ⟨he, ⟨Below.keepCell hg.below hi.2 hi.1, Nat.lt_of_lt_of_le hi.2 hg.below.size⟩, grown_of_below hg.below (Nat.le_refl _) _⟩
  alloc W s o hi := ⟨(World.cell?_alloc_lt _ _ _ (show kb < W.heap.size from hi.2)).trans hi.1, by simp; omega⟩
  set_ W s q v hq hi := ⟨(World.cell?_setCell_other _ _ _ _ (fun e => hne (by rw [← hq, e]))).trans hi.1, by simpa [World.setCell] using hi.2⟩
theorem delF_own (own : Int) : ∀ (l : List (Int × Int)), delF (fun (_ : Unit) x => x.1 == own) (fun _ _ => ()) () l = others own l
  | [] => rfl
  | x :: l => by
    simp only [delF, others]
    by_cases h : (x.1 == own) = true
    · rw [if_pos h, delF_own own l, List.filter_cons_of_neg (by simpa using h)]
      rfl
    · rw [if_neg h, delF_own own l, List.filter_cons_of_pos (by simpa using h)]
      rfl
end De
end Go.Proofs.Ytpjomdkcckamkaa
