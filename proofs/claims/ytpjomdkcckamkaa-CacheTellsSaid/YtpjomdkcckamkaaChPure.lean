/- Neighbours by draws: the plain law: no program in sight. -/
import Derived.Test.YtpjomdkcckamkaaCaPure
namespace Go.Proofs.Ytpjomdkcckamkaa
namespace De
/-- Which place a draw chooses. -/
def pick (n : Nat) (d : Int) : Nat := (d % (n : Int)).toNat
theorem pick_lt {n : Nat} (h : 0 < n) (d : Int) : pick n d < n := by
  unfold pick
  have h1 := Int.emod_nonneg d (show (n : Int) ≠ 0 by omega)
  have h2 := Int.emod_lt_of_pos d (show (0 : Int) < n by omega)
  omega
theorem pick_eq {n : Nat} (h : 0 < n) (d : Int) : ((pick n d : Nat) : Int) = d % (n : Int) := by
  unfold pick
  have h1 := Int.emod_nonneg d (show (n : Int) ≠ 0 by omega)
  omega
theorem pick_small {n : Nat} {k : Nat} (h : k < n) : pick n k = k := by
  have := pick_eq (n := n) (by omega) k
  rw [Int.emod_eq_of_lt (by omega) (by omega)] at this
  omega
/-- Those that draws choose. -/
def chs : List D → List Int → List D
  | _, [] => []
  | l, d :: ds => if l = [] then [] else (l[pick l.length d]?.getD (0, 0)) :: chs (l.eraseIdx (pick l.length d)) ds
/-- Those that are left. -/
def remL : List D → List Int → List D
  | l, [] => l
  | l, d :: ds => if l = [] then [] else remL (l.eraseIdx (pick l.length d)) ds
theorem chs_nil : ∀ ds, chs [] ds = []
  | [] => rfl
  | _ :: _ => by simp [chs]
theorem remL_nil : ∀ ds, remL [] ds = []
  | [] => rfl
  | _ :: _ => by simp [remL]
theorem remL_snoc : ∀ (ds : List Int) (l : List D) (d : Int), remL l (ds ++ [d]) = if remL l ds = [] then [] else (remL l ds).eraseIdx (pick (remL l ds).length d)
  | [], l, d => by
    by_cases h : l = []
    · simp [remL, h]
    · simp [remL, h]
  | e :: ds, l, d => by
    by_cases h : l = []
    · subst h
      simp [remL]
    · simp only [List.cons_append, remL, if_neg h]
      exact remL_snoc ds _ d
theorem chs_snoc : ∀ (ds : List Int) (l : List D) (d : Int), chs l (ds ++ [d]) = if remL l ds = [] then chs l ds else chs l ds ++ [((remL l ds)[pick (remL l ds).length d]?.getD (0, 0))]
  | [], l, d => by
    by_cases h : l = []
    · subst h
      simp [remL, chs]
    · simp [remL, chs, h]
  | e :: ds, l, d => by
    by_cases h : l = []
    · subst h
      simp [remL, chs]
    · simp only [List.cons_append, remL, chs, if_neg h]
      rw [chs_snoc ds _ d]
      split <;> rfl
theorem chs_done {ds : List Int} : ∀ {l : List D}, remL l ds = [] → ∀ es, chs l (ds ++ es) = chs l ds := by
  induction ds with
  | nil =>
    intro l h es
    simp only [remL] at h
    subst h
    simp [chs_nil]
  | cons d ds ih =>
    intro l h es
    by_cases hl : l = []
    · subst hl
      simp [chs]
    · simp only [remL, if_neg hl] at h
      simp only [List.cons_append, chs, if_neg hl, ih h]
theorem chs_len : ∀ (ds : List Int) (l : List D), (chs l ds).length = min ds.length l.length
  | [], l => by simp [chs]
  | d :: ds, l => by
    by_cases h : l = []
    · subst h
      simp [chs]
    · have hp : 0 < l.length := List.length_pos_iff.2 h
      have := chs_len ds (l.eraseIdx (pick l.length d))
      rw [List.length_eraseIdx_of_lt (pick_lt hp d)] at this
      simp only [chs, if_neg h, List.length_cons, this]
      omega
theorem remL_len : ∀ (ds : List Int) (l : List D), (remL l ds).length = l.length - ds.length
  | [], l => by simp [remL]
  | d :: ds, l => by
    by_cases h : l = []
    · subst h
      simp [remL]
    · have hp : 0 < l.length := List.length_pos_iff.2 h
      have := remL_len ds (l.eraseIdx (pick l.length d))
      rw [List.length_eraseIdx_of_lt (pick_lt hp d)] at this
      simp only [remL, if_neg h, this, List.length_cons]
      omega
theorem remL_sub : ∀ (ds : List Int) (l : List D), ∀ x ∈ remL l ds, x ∈ l
  | [], l, x, h => h
  | d :: ds, l, x, h => by
    by_cases hl : l = []
    · subst hl
      simp [remL] at h
    · simp only [remL, if_neg hl] at h
      exact List.eraseIdx_subset (remL_sub ds _ x h)
theorem chs_sub : ∀ (ds : List Int) (l : List D), ∀ x ∈ chs l ds, x ∈ l
  | [], l, x, h => by simp [chs] at h
  | d :: ds, l, x, h => by
    by_cases hl : l = []
    · subst hl
      simp [chs] at h
    · simp only [chs, if_neg hl, List.mem_cons] at h
      have hp : 0 < l.length := List.length_pos_iff.2 hl
      rcases h with rfl | h
      · rw [List.getElem?_eq_getElem (pick_lt hp d)]
        exact List.getElem_mem _
      · exact List.eraseIdx_subset (chs_sub ds _ x h)
theorem chs_take : ∀ (k : Nat) (ds : List Int) (l : List D), chs l (ds.take k) = (chs l ds).take k
  | 0, ds, l => by simp [chs]
  | k + 1, [], l => by simp [chs]
  | k + 1, d :: ds, l => by
    by_cases h : l = []
    · subst h
      simp [chs]
    · simp only [List.take_succ_cons, chs, if_neg h, chs_take k ds]
/-- What is taken out and what stays are apart. -/
def Apt (l : List D) : Prop := l.Pairwise fun a b => a.1 ≠ b.1
theorem Apt.erase {l : List D} (h : Apt l) (i : Nat) : Apt (l.eraseIdx i) := h.sublist (List.eraseIdx_sublist ..)
theorem Apt.out {l : List D} (h : Apt l) {i : Nat} (hi : i < l.length) : ∀ x ∈ l.eraseIdx i, l[i].1 ≠ x.1 := by
  intro x hx
  obtain ⟨j, hj, hji, rfl⟩ := List.mem_eraseIdx_iff_getElem.1 hx
  unfold Apt at h
  rw [List.pairwise_iff_getElem] at h
  rcases Nat.lt_trichotomy i j with h1 | h1 | h1
  · exact h i j hi hj h1
  · exact absurd h1.symm hji
  · exact (h j i hj hi h1).symm
theorem chs_apt : ∀ (ds : List Int) (l : List D), Apt l → Apt (chs l ds)
  | [], l, _ => .nil
  | d :: ds, l, h => by
    by_cases hl : l = []
    · subst hl
      simp [chs, Apt]
    · have hp : 0 < l.length := List.length_pos_iff.2 hl
      have hi := pick_lt hp d
      simp only [chs, if_neg hl]
      refine List.pairwise_cons.2 ⟨fun x hx => ?_, chs_apt ds _ (h.erase _)⟩
      rw [List.getElem?_eq_getElem hi]
      exact h.out hi x (chs_sub _ _ x hx)
/-- Where one stands first. -/
def where_ (x : D) : List D → Option Nat
  | [] => none
  | y :: l => if y = x then some 0 else (where_ x l).map (· + 1)
theorem where_at {l : List D} (h : Apt l) : ∀ {i : Nat} (hi : i < l.length), where_ l[i] l = some i := by
  induction l with
  | nil => intro i hi; simp at hi
  | cons y l ih =>
    intro i hi
    have h2 := List.pairwise_cons.1 h
    cases i with
    | zero => simp [where_]
    | succ i =>
      have hi' : i < l.length := by simpa using hi
      have hne : y ≠ l[i] := fun e => h2.1 l[i] (List.getElem_mem _) (by rw [e])
      simp only [where_, List.getElem_cons_succ, if_neg hne, ih h2.2 hi', Option.map_some]
theorem where_lt {x : D} : ∀ {l : List D} {i : Nat}, where_ x l = some i → i < l.length ∧ l[i]? = some x
  | [], i, h => by simp [where_] at h
  | y :: l, i, h => by
    simp only [where_] at h
    split at h
    · rename_i e
      cases h
      simp [e]
    · cases hw : where_ x l with
      | none => rw [hw] at h; cases h
      | some j =>
        rw [hw] at h
        cases h
        obtain ⟨h1, h2⟩ := where_lt hw
        exact ⟨by simp; omega, by simpa using h2⟩
theorem where_none {x : D} : ∀ {l : List D}, where_ x l = none ↔ x ∉ l
  | [] => by simp [where_]
  | y :: l => by
    simp only [where_, List.mem_cons, not_or]
    split
    · rename_i e
      simp [e]
    · rename_i e
      rw [Option.map_eq_none_iff, where_none (l := l)]
      exact ⟨fun h => ⟨fun h1 => e h1.symm, h⟩, fun h => h.2⟩
/-- The draws by which some are chosen. -/
def drw : List D → List D → Option (List Int)
  | _, [] => some []
  | l, x :: xs => match where_ x l with
    | none => none
    | some i => (drw (l.eraseIdx i) xs).map fun ds => (i : Int) :: ds
/-- Draws undo the choice. -/
theorem drw_chs : ∀ (ds : List Int) (l : List D), Apt l → (∀ d ∈ ds, 0 ≤ d) → ∃ es, drw l (chs l ds) = some es ∧ chs l es = chs l ds ∧ es.length = (chs l ds).length ∧
    ∀ i, i < es.length → 0 ≤ es[i]?.getD 0 ∧ es[i]?.getD 0 ≤ ds[i]?.getD 0 ∧ es[i]?.getD 0 < (l.length : Int) - i
  | [], l, _, _ => ⟨[], by simp [chs, drw]⟩
  | d :: ds, l, h, h0 => by
    by_cases hl : l = []
    · subst hl
      exact ⟨[], by simp [chs, drw]⟩
    · have hp : 0 < l.length := List.length_pos_iff.2 hl
      have hi := pick_lt hp d
      obtain ⟨es, e1, e2, e3, e4⟩ := drw_chs ds (l.eraseIdx (pick l.length d)) (h.erase _) (fun x hx => h0 x (List.mem_cons_of_mem _ hx))
      have hd := h0 d (List.mem_cons_self ..)
      have hpe := pick_eq hp d
      have hle : (pick l.length d : Int) ≤ d := by
        rw [hpe]
        obtain ⟨m, rfl⟩ := Int.eq_ofNat_of_zero_le hd
        have := Nat.mod_le m l.length
        omega
      refine ⟨(pick l.length d : Int) :: es, ?_, ?_, ?_, ?_⟩
      · simp only [chs, if_neg hl, drw, List.getElem?_eq_getElem hi, Option.getD_some, where_at h hi, e1, Option.map_some]
      · simp only [chs, if_neg hl, pick_small hi, e2]
      · simp only [chs, if_neg hl, List.length_cons, e3]
      · intro i hi'
        cases i with
        | zero => simp; omega
        | succ i =>
          have := e4 i (by simpa using hi')
          rw [List.length_eraseIdx_of_lt hi] at this
          simp
          omega
/-- Draws in a row choose each once. -/
def rowL (l : List D) (d : Int) (n : Nat) : List D := (List.range n).map fun i : Nat => l[pick l.length (d + (i : Int))]?.getD (0, 0)
theorem rowL_snoc (l : List D) (d : Int) (n : Nat) : rowL l d (n + 1) = rowL l d n ++ [l[pick l.length (d + (n : Int))]?.getD (0, 0)] := by simp [rowL, List.range_succ]
theorem rowL_mem {l : List D} {d : Int} (x : D) : x ∈ rowL l d l.length ↔ x ∈ l := by
  unfold rowL
  rw [List.mem_map]
  constructor
  · rintro ⟨i, hi, rfl⟩
    have hp : 0 < l.length := by have := List.mem_range.1 hi; omega
    rw [List.getElem?_eq_getElem (pick_lt hp _)]
    exact List.getElem_mem _
  · intro hx
    obtain ⟨j, hj, rfl⟩ := List.mem_iff_getElem.1 hx
    have hp : 0 < l.length := by omega
    refine ⟨pick l.length ((j : Int) - d), List.mem_range.2 (pick_lt hp _), ?_⟩
    have e : pick l.length (d + ((pick l.length ((j : Int) - d) : Nat) : Int)) = j := by
      have h1 := pick_eq hp ((j : Int) - d)
      have h2 := pick_eq hp (d + ((pick l.length ((j : Int) - d) : Nat) : Int))
      have h3 : (j : Int) % (l.length : Int) = j := Int.emod_eq_of_lt (by omega) (by omega)
      rw [h1] at h2 ⊢
      rw [Int.add_emod_emod, show d + ((j : Int) - d) = (j : Int) by omega, h3] at h2
      omega
    rw [e, List.getElem?_eq_getElem hj]
    rfl
theorem rowL_best {own cap : Int} {l : List D} (h : MayC own cap l) (d : Int) : best (rowL l d l.length) = l := by
  rw [best_cong (m := l) fun x => rowL_mem x]
  have h1 := h.bst
  rwa [bst_others h1] at h1
end De
end Go.Proofs.Ytpjomdkcckamkaa
