/- Descriptors, their order, and the best of each node: plain laws, no program in sight. -/
namespace Go.Proofs.Ytpjomdkcckamkaa
namespace De
/-- A descriptor: its node and its stamp. -/
abbrev D := Int × Int
def may (d : D) : Bool := decide (0 ≤ d.1) && (decide (d.1 < 8) && (decide (0 ≤ d.2) && decide (d.2 ≤ 2147483647)))
theorem may_iff (d : D) : may d = true ↔ 0 ≤ d.1 ∧ d.1 < 8 ∧ 0 ≤ d.2 ∧ d.2 ≤ 2147483647 := by simp [may]
/-- Is one fresher than the other one? -/
def ltB (a b : D) : Bool := decide (b.2 < a.2 ∨ (a.2 = b.2 ∧ a.1 < b.1))
theorem lt_iff (a b : D) : ltB a b = true ↔ b.2 < a.2 ∨ (a.2 = b.2 ∧ a.1 < b.1) := by simp [ltB]
theorem lt_irr (a : D) : ltB a a = false := by rw [Bool.eq_false_iff, Ne, lt_iff]; omega
theorem lt_trans {a b c : D} (h : ltB a b = true) (k : ltB b c = true) : ltB a c = true := by rw [lt_iff] at *; omega
theorem lt_asymm {a b : D} (h : ltB a b = true) : ltB b a = false := by rw [Bool.eq_false_iff, Ne]; rw [lt_iff] at *; omega
theorem lt_tot {a b : D} (h : ltB a b = false) (k : ltB b a = false) : a = b := by
  rw [Bool.eq_false_iff, Ne, lt_iff] at h k
  exact Prod.ext (by omega) (by omega)
theorem lt_ntrans {a b c : D} (h : ltB a b = false) (k : ltB b c = false) : ltB a c = false := by
  rw [Bool.eq_false_iff, Ne, lt_iff] at *; omega
def check (l : List D) : Int := if 64 < l.length then 4 else if l.all may then 0 else 8

/-- In order: no later one is fresher. -/
def Srt (l : List D) : Prop := l.Pairwise fun a b => ltB b a = false
theorem srt_uniq {l m : List D} (hp : l.Perm m) (h1 : Srt l) (h2 : Srt m) : l = m :=
  hp.eq_of_pairwise (le := fun a b => ltB b a = false) (fun _ _ _ _ h k => lt_tot k h) h1 h2
/-- One goes ahead of those that it is fresher than. -/
def ins (d : D) : List D → List D
  | [] => [d]
  | x :: l => if ltB d x then d :: x :: l else x :: ins d l
def srt (l : List D) : List D := l.foldl (fun out d => ins d out) []
theorem ins_perm (d : D) : ∀ l, (ins d l).Perm (d :: l)
  | [] => .refl _
  | x :: l => by
    simp only [ins]
    split
    · exact .refl _
    · exact ((ins_perm d l).cons x).trans (.swap ..)
theorem ins_srt (d : D) : ∀ {l}, Srt l → Srt (ins d l)
  | [], _ => by simp [ins, Srt]
  | x :: l, h => by
    simp only [ins]
    obtain ⟨h1, h2⟩ := List.pairwise_cons.1 h
    split
    · rename_i hd
      refine List.pairwise_cons.2 ⟨fun y hy => ?_, h⟩
      rcases List.mem_cons.1 hy with rfl | hy
      · exact lt_asymm hd
      · exact lt_ntrans (h1 y hy) (lt_asymm hd)
    · rename_i hd
      refine List.pairwise_cons.2 ⟨fun y hy => ?_, ins_srt d h2⟩
      rcases List.mem_cons.1 ((ins_perm d l).mem_iff.1 hy) with rfl | hy
      · simpa using hd
      · exact h1 y hy
theorem srtF_perm (l : List D) : ∀ out : List D, (l.foldl (fun out d => ins d out) out).Perm (l ++ out) := by
  induction l with
  | nil => exact fun out => .refl _
  | cons d l ih => exact fun out => ((ih (ins d out)).trans ((ins_perm d out).append_left l)).trans (List.perm_middle)
theorem srtF_srt (l : List D) : ∀ out : List D, Srt out → Srt (l.foldl (fun out d => ins d out) out) := by
  induction l with
  | nil => exact fun out h => h
  | cons d l ih => exact fun out h => ih _ (ins_srt d h)
theorem srt_perm (l : List D) : (srt l).Perm l := by
  have := srtF_perm l []
  rwa [List.append_nil] at this
theorem srt_srt (l : List D) : Srt (srt l) := srtF_srt l [] List.Pairwise.nil
theorem srt_of {l m : List D} (hp : m.Perm l) (hs : Srt m) : m = srt l := srt_uniq (hp.trans (srt_perm l).symm) hs (srt_srt l)
theorem srt_len (l : List D) : (srt l).length = l.length := (srt_perm l).length_eq
theorem srt_mem {l : List D} {d : D} : d ∈ srt l ↔ d ∈ l := (srt_perm l).mem_iff

/-- The first of each node, but for nodes that are seen. -/
def firsts (seen : List Int) : List D → List D
  | [] => []
  | d :: l => if d.1 ∈ seen then firsts seen l else d :: firsts (d.1 :: seen) l
def best (l : List D) : List D := firsts [] (srt l)
theorem firsts_sub : ∀ (l : List D) (seen : List Int), (firsts seen l).Sublist l
  | [], _ => .slnil
  | d :: l, seen => by
    simp only [firsts]
    split
    · exact (firsts_sub l seen).cons d
    · exact (firsts_sub l _).cons_cons d
theorem firsts_new : ∀ (l : List D) (seen : List Int), ∀ x ∈ firsts seen l, x.1 ∉ seen
  | [], _, x, h => by simp [firsts] at h
  | d :: l, seen, x, h => by
    simp only [firsts] at h
    split at h
    · exact firsts_new l seen x h
    · rename_i hd
      rcases List.mem_cons.1 h with rfl | h
      · exact hd
      · exact fun hs => firsts_new l _ x h (List.mem_cons_of_mem _ hs)
theorem firsts_apart : ∀ (l : List D) (seen : List Int), (firsts seen l).Pairwise fun a b => a.1 ≠ b.1
  | [], _ => .nil
  | d :: l, seen => by
    simp only [firsts]
    split
    · exact firsts_apart l seen
    · exact List.pairwise_cons.2 ⟨fun y hy e => firsts_new l _ y hy (by rw [e]; exact List.mem_cons_self ..), firsts_apart l _⟩
theorem firsts_has : ∀ (l : List D) (seen : List Int), Srt l → ∀ d ∈ l, d.1 ∉ seen → ∃ x ∈ firsts seen l, x.1 = d.1 ∧ d.2 ≤ x.2
  | [], _, _, d, h, _ => by simp at h
  | c :: l, seen, hs, d, h, hn => by
    obtain ⟨h1, h2⟩ := List.pairwise_cons.1 hs
    simp only [firsts]
    split
    · rename_i hc
      rcases List.mem_cons.1 h with rfl | h
      · exact absurd hc hn
      · exact firsts_has l seen h2 d h hn
    · rename_i hc
      rcases List.mem_cons.1 h with rfl | h
      · exact ⟨d, List.mem_cons_self .., rfl, Int.le_refl _⟩
      · by_cases e : d.1 = c.1
        · refine ⟨c, List.mem_cons_self .., e.symm, ?_⟩
          have := h1 d h
          rw [Bool.eq_false_iff, Ne, lt_iff] at this
          omega
        · obtain ⟨x, hx, hx1, hx2⟩ := firsts_has l (c.1 :: seen) h2 d h (by simp [e, hn])
          exact ⟨x, List.mem_cons_of_mem _ hx, hx1, hx2⟩
/-- What it is to be the best ones of some. -/
structure IsBest (l B : List D) : Prop where
  srt : Srt B
  apart : B.Pairwise fun a b => a.1 ≠ b.1
  sub : ∀ x ∈ B, x ∈ l
  has : ∀ d ∈ l, ∃ x ∈ B, x.1 = d.1 ∧ d.2 ≤ x.2
theorem best_is (l : List D) : IsBest l (best l) where
  srt := (srt_srt l).sublist (firsts_sub _ _)
  apart := firsts_apart _ _
  sub x hx := srt_mem.1 ((firsts_sub _ _).subset hx)
  has d hd := firsts_has _ _ (srt_srt l) d (srt_mem.2 hd) (by simp)
theorem apart_eq {B : List D} (h : B.Pairwise fun a b => a.1 ≠ b.1) {x y : D} (hx : x ∈ B) (hy : y ∈ B) (e : x.1 = y.1) : x = y := by
  induction B with
  | nil => simp at hx
  | cons b B ih =>
    obtain ⟨h1, h2⟩ := List.pairwise_cons.1 h
    rcases List.mem_cons.1 hx with ex | hx <;> rcases List.mem_cons.1 hy with ey | hy
    · rw [ex, ey]
    · exact absurd (ex ▸ e) (h1 y hy)
    · exact absurd (ey ▸ e).symm (h1 x hx)
    · exact ih h2 hx hy
theorem apart_nodup {B : List D} (h : B.Pairwise fun a b => a.1 ≠ b.1) : B.Nodup := h.imp fun hab e => hab (by rw [e])
theorem IsBest.mem_iff {l B : List D} (h : IsBest l B) (x : D) : x ∈ B ↔ x ∈ l ∧ ∀ d ∈ l, d.1 = x.1 → d.2 ≤ x.2 := by
  constructor
  · intro hx
    refine ⟨h.sub x hx, fun d hd e => ?_⟩
    obtain ⟨y, hy, e1, e2⟩ := h.has d hd
    obtain rfl := apart_eq h.apart hx hy (by omega)
    exact e2
  · rintro ⟨hx, hm⟩
    obtain ⟨y, hy, e1, e2⟩ := h.has x hx
    have := hm y (h.sub y hy) e1
    have e : y = x := Prod.ext e1 (by omega)
    rwa [e] at hy
theorem nodup_perm {α : Type} [BEq α] [LawfulBEq α] {l m : List α} (h1 : l.Nodup) (h2 : m.Nodup) (h : ∀ x, x ∈ l ↔ x ∈ m) : l.Perm m := by
  rw [List.perm_iff_count]
  intro a
  rw [h1.count, h2.count]
  simp [h a]
theorem IsBest.uniq {l m B C : List D} (h : IsBest l B) (k : IsBest m C) (hlm : ∀ x, x ∈ l ↔ x ∈ m) : B = C := by
  refine srt_uniq (nodup_perm (apart_nodup h.apart) (apart_nodup k.apart) fun x => ?_) h.srt k.srt
  rw [h.mem_iff, k.mem_iff, hlm]
  exact ⟨fun ⟨a, b⟩ => ⟨a, fun d hd => b d ((hlm d).2 hd)⟩, fun ⟨a, b⟩ => ⟨a, fun d hd => b d ((hlm d).1 hd)⟩⟩
theorem best_of {l B : List D} (h : IsBest l B) : best l = B := (best_is l).uniq h fun _ => Iff.rfl
theorem best_cong {l m : List D} (h : ∀ x, x ∈ l ↔ x ∈ m) : best l = best m := (best_is l).uniq (best_is m) h
theorem best_best (l : List D) : best (best l) = best l := best_of
  { srt := (best_is l).srt, apart := (best_is l).apart, sub := fun _ h => h, has := fun d hd => ⟨d, hd, rfl, Int.le_refl _⟩ }
theorem best_step (l m : List D) : best (best l ++ m) = best (l ++ m) := by
  have h := best_is (best l ++ m)
  have hl := best_is l
  refine ((best_is (l ++ m)).uniq (m := l ++ m) ?_ fun _ => Iff.rfl).symm
  refine ⟨h.srt, h.apart, fun x hx => ?_, fun d hd => ?_⟩
  · rcases List.mem_append.1 (h.sub x hx) with hx | hx
    · exact List.mem_append_left _ (hl.sub x hx)
    · exact List.mem_append_right _ hx
  · rcases List.mem_append.1 hd with hd | hd
    · obtain ⟨x, hx, e1, e2⟩ := hl.has d hd
      obtain ⟨y, hy, f1, f2⟩ := h.has x (List.mem_append_left _ hx)
      exact ⟨y, hy, by omega, by omega⟩
    · exact h.has d (List.mem_append_right _ hd)
theorem best_len (l : List D) : (best l).length ≤ l.length := by
  have := (firsts_sub (srt l) []).length_le
  rw [srt_len] at this
  exact this
theorem best_may {l : List D} (h : l.all may = true) : (best l).all may = true := by
  rw [List.all_eq_true] at *
  exact fun x hx => h x ((best_is l).sub x hx)
end De
end Go.Proofs.Ytpjomdkcckamkaa
