/- Caches: plain laws, no program in sight. -/
import Derived.Test.YtpjomdkcckamkaaDePure
namespace Go.Proofs.Ytpjomdkcckamkaa
namespace De
theorem all_may_of {l m : List D} (h : l.all may = true) (hs : ∀ x ∈ m, x ∈ l) : m.all may = true := by
  rw [List.all_eq_true] at *
  exact fun x hx => h x (hs x hx)
theorem check_ok {l : List D} (h1 : l.length ≤ 64) (h2 : l.all may = true) : check l = 0 := by rw [check, if_neg (by omega), if_pos h2]
theorem check_zero {l : List D} (h : check l = 0) : l.length ≤ 64 ∧ l.all may = true := by
  unfold check at h
  split at h
  · cases h
  · split at h
    · exact ⟨by omega, by assumption⟩
    · cases h
theorem check_perm {l m : List D} (h : l.Perm m) : check l = check m := by
  unfold check
  rw [h.length_eq]
  have e : l.all may = m.all may := by
    rw [Bool.eq_iff_iff, List.all_eq_true, List.all_eq_true]
    exact ⟨fun k x hx => k x (h.mem_iff.2 hx), fun k x hx => k x (h.mem_iff.1 hx)⟩
  rw [e]
theorem check_left {l m : List D} (h : check (l ++ m) = 0) : check l = 0 := by
  obtain ⟨h1, h2⟩ := check_zero h
  exact check_ok (by simp at h1; omega) (all_may_of h2 fun x hx => List.mem_append_left _ hx)
theorem check_best {l : List D} (h : check l = 0) : check (best l) = 0 := by
  obtain ⟨h1, h2⟩ := check_zero h
  exact check_ok (by have := best_len l; omega) (best_may h2)
theorem check_best_app {l m : List D} (h : check (l ++ m) = 0) : check (best l ++ m) = 0 := by
  obtain ⟨h1, h2⟩ := check_zero h
  refine check_ok (by have := best_len l; simp at h1 ⊢; omega) (all_may_of h2 fun x hx => ?_)
  rcases List.mem_append.1 hx with hx | hx
  · exact List.mem_append_left _ ((best_is l).sub x hx)
  · exact List.mem_append_right _ hx
theorem best_swap (l m : List D) : best (m ++ l) = best (l ++ m) := best_cong fun x => by simp [or_comm]
/-- Of each node just one is kept. -/
theorem IsBest.one {l B : List D} (h : IsBest l B) {d : D} (hd : d ∈ l) : B.countP (fun x => x.1 == d.1) = 1 := by
  obtain ⟨x, hx, e1, _⟩ := h.has d hd
  have h1 : 0 < B.countP (fun x => x.1 == d.1) := List.countP_pos_iff.2 ⟨x, hx, by simpa using e1⟩
  have h2 : B.countP (fun x => x.1 == d.1) ≤ 1 := by
    have hp := h.apart
    clear h hx h1
    induction B with
    | nil => simp
    | cons b B ih =>
      obtain ⟨p1, p2⟩ := List.pairwise_cons.1 hp
      rw [List.countP_cons]
      by_cases hb : (b.1 == d.1) = true
      · rw [if_pos hb]
        have : B.countP (fun x => x.1 == d.1) = 0 := List.countP_eq_zero.2 fun y hy hy2 => by
          have e3 : y.1 = d.1 := by simpa using hy2
          have e4 : b.1 = d.1 := by simpa using hb
          exact p1 y hy (by rw [e3, e4])
        omega
      · rw [if_neg hb]
        have := ih p2
        omega
  omega

/-- In strict order. -/
def Strict (B : List D) : Prop := B.Pairwise fun a b => ltB a b = true
theorem IsBest.strict {l B : List D} (h : IsBest l B) : Strict B := by
  have := h.srt.and h.apart
  refine this.imp fun {a b} ⟨h1, h2⟩ => ?_
  cases h3 : ltB a b with
  | true => rfl
  | false => exact absurd (by rw [lt_tot h3 h1]) h2
theorem take_mem_iff : ∀ {B : List D}, Strict B → ∀ (k : Nat) (x : D), x ∈ B.take k ↔ x ∈ B ∧ B.countP (fun y => ltB y x) < k
  | [], _, k, x => by simp
  | b :: B, h, 0, x => by simp
  | b :: B, h, k + 1, x => by
    obtain ⟨p1, p2⟩ := List.pairwise_cons.1 h
    rw [List.take_succ_cons, List.mem_cons, List.mem_cons, take_mem_iff p2 k x, List.countP_cons]
    by_cases e : x = b
    · subst e
      have h0 : B.countP (fun y => ltB y x) = 0 := List.countP_eq_zero.2 fun y hy hy2 => by
        have := lt_asymm (p1 y hy)
        rw [this] at hy2
        cases hy2
      rw [h0, lt_irr]
      simp
    · constructor
      · rintro (e2 | ⟨h1, h2⟩)
        · exact absurd e2 e
        · exact ⟨.inr h1, by rw [p1 x h1]; simp; omega⟩
      · rintro ⟨h1 | h1, h2⟩
        · exact absurd h1 e
        · rw [p1 x h1] at h2
          simp at h2
          exact .inr ⟨h1, by omega⟩
theorem map_nodup {B : List D} (h : B.Pairwise fun a b => a.1 ≠ b.1) : (B.map (·.1)).Nodup := List.pairwise_map.2 h
/-- Those ahead are no more where each has one that is not behind it. -/
theorem ahead_le {l m B C : List D} (hB : IsBest l B) (hC : IsBest m C) (hlm : ∀ x ∈ l, x ∈ m) (x : D) : B.countP (fun y => ltB y x) ≤ C.countP (fun y => ltB y x) := by
  rw [List.countP_eq_length_filter, List.countP_eq_length_filter]
  have h1 := (map_nodup (hB.apart.filter fun y => ltB y x)).length_le_of_subset (l₂ := (C.filter fun y => ltB y x).map (·.1)) fun i hi => by
    obtain ⟨y, hy, rfl⟩ := List.mem_map.1 hi
    obtain ⟨hy1, hy2⟩ := List.mem_filter.1 hy
    obtain ⟨u, hu, e1, e2⟩ := hC.has y (hlm y (hB.sub y hy1))
    refine List.mem_map.2 ⟨u, List.mem_filter.2 ⟨hu, ?_⟩, e1⟩
    rw [lt_iff] at *
    omega
  simpa using h1
theorem best_len_le {l m B C : List D} (hB : IsBest l B) (hC : IsBest m C) (hlm : ∀ x ∈ l, x ∈ m) : B.length ≤ C.length := by
  have h1 := (map_nodup hB.apart).length_le_of_subset (l₂ := C.map (·.1)) fun i hi => by
    obtain ⟨y, hy, rfl⟩ := List.mem_map.1 hi
    obtain ⟨u, hu, e1, e2⟩ := hC.has y (hlm y (hB.sub y hy))
    exact List.mem_map.2 ⟨u, hu, e1⟩
  simpa using h1
/-- To keep the k best ones ahead turns nothing. -/
theorem top_step (A B : List D) (k : Nat) : (best ((best A).take k ++ B)).take k = (best (A ++ B)).take k := by
  have hA := best_is A
  have hU := best_is (A ++ B)
  have hV := best_is ((best A).take k ++ B)
  have hsub : ∀ x ∈ (best A).take k ++ B, x ∈ A ++ B := fun x hx => by
    rcases List.mem_append.1 hx with hx | hx
    · exact List.mem_append_left _ (hA.sub x (List.mem_of_mem_take hx))
    · exact List.mem_append_right _ hx
  have c1 : ∀ x ∈ (best (A ++ B)).take k, x ∈ (best ((best A).take k ++ B)).take k := fun x hx => by
    obtain ⟨x1, x2⟩ := (take_mem_iff hU.strict k x).1 hx
    obtain ⟨x3, x4⟩ := (hU.mem_iff x).1 x1
    have x5 : x ∈ (best A).take k ++ B := by
      rcases List.mem_append.1 x3 with h | h
      · refine List.mem_append_left _ ((take_mem_iff hA.strict k x).2 ⟨(hA.mem_iff x).2 ⟨h, fun d hd => x4 d (List.mem_append_left _ hd)⟩, ?_⟩)
        exact Nat.lt_of_le_of_lt (ahead_le hA hU (fun y hy => List.mem_append_left _ hy) x) x2
      · exact List.mem_append_right _ h
    refine (take_mem_iff hV.strict k x).2 ⟨(hV.mem_iff x).2 ⟨x5, fun d hd => x4 d (hsub d hd)⟩, ?_⟩
    exact Nat.lt_of_le_of_lt (ahead_le hV hU hsub x) x2
  have nU : ((best (A ++ B)).take k).Nodup := (apart_nodup hU.apart).sublist (List.take_sublist _ _)
  have nV : ((best ((best A).take k ++ B)).take k).Nodup := (apart_nodup hV.apart).sublist (List.take_sublist _ _)
  have hl : ((best ((best A).take k ++ B)).take k).length ≤ ((best (A ++ B)).take k).length := by
    have := best_len_le hV hU hsub
    simp
    omega
  refine (srt_uniq (nodup_perm nU nV fun x => ⟨c1 x, fun hx => ?_⟩) (hU.srt.sublist (List.take_sublist _ _)) (hV.srt.sublist (List.take_sublist _ _))).symm
  refine Decidable.byContradiction fun hn => ?_
  have := (List.nodup_cons.2 ⟨hn, nU⟩).length_le_of_subset (l₂ := (best ((best A).take k ++ B)).take k) fun y hy => by
    rcases List.mem_cons.1 hy with rfl | hy
    · exact hx
    · exact c1 y hy
  simp only [List.length_cons] at this
  omega

/-- Those of other nodes. -/
def others (own : Int) (l : List D) : List D := l.filter fun d => d.1 != own
theorem others_app (own : Int) (l m : List D) : others own (l ++ m) = others own l ++ others own m := List.filter_append ..
theorem others_mem {own : Int} {l : List D} {x : D} : x ∈ others own l ↔ x ∈ l ∧ x.1 ≠ own := by simp [others]
theorem others_self {own : Int} {l : List D} (h : ∀ x ∈ l, x.1 ≠ own) : others own l = l := List.filter_eq_self.2 fun x hx => by simpa using h x hx
theorem others_len (own : Int) (l : List D) : (others own l).length ≤ l.length := List.length_filter_le _ _
/-- What a cache takes in. -/
def taken (own : Int) (cap : Nat) (l : List D) : List D := (best (others own l)).take cap
theorem taken_sub {own : Int} {cap : Nat} {l : List D} {x : D} (h : x ∈ taken own cap l) : x ∈ l ∧ x.1 ≠ own := others_mem.1 ((best_is _).sub x (List.mem_of_mem_take h))
theorem taken_step (own : Int) (cap : Nat) (l m : List D) : taken own cap (taken own cap l ++ m) = taken own cap (l ++ m) := by
  unfold taken
  rw [others_app, others_app, others_self (l := (best (others own l)).take cap) (fun x hx => (taken_sub hx).2)]
  exact top_step _ _ _
theorem taken_cong (own : Int) (cap : Nat) {l m : List D} (h : ∀ x, x ∈ l ↔ x ∈ m) : taken own cap l = taken own cap m := by
  unfold taken
  rw [best_cong (l := others own l) (m := others own m) fun x => by rw [others_mem, others_mem, h x]]
def newOk (own cap : Int) : Bool := decide (0 ≤ own) && (decide (own < 8) && (decide (1 ≤ cap) && decide (cap ≤ 6)))
theorem newOk_iff (own cap : Int) : newOk own cap = true ↔ 0 ≤ own ∧ own < 8 ∧ 1 ≤ cap ∧ cap ≤ 6 := by simp [newOk]
/-- May a cache be? -/
def mayC (own cap : Int) (l : List D) : Bool := newOk own cap && (decide ((l.length : Int) ≤ cap) && (check l == 0 && best (others own l) == l))
structure MayC (own cap : Int) (l : List D) : Prop where
  new : newOk own cap = true
  len : (l.length : Int) ≤ cap
  chk : check l = 0
  bst : best (others own l) = l
theorem mayC_iff (own cap : Int) (l : List D) : mayC own cap l = true ↔ MayC own cap l := by
  simp only [mayC, Bool.and_eq_true, decide_eq_true_eq, beq_iff_eq]
  exact ⟨fun ⟨a, b, c, d⟩ => ⟨a, b, c, d⟩, fun ⟨a, b, c, d⟩ => ⟨a, b, c, d⟩⟩
theorem bst_others {own : Int} {l : List D} (h : best (others own l) = l) : others own l = l := by
  have h1 := best_len (others own l)
  rw [h] at h1
  exact (List.filter_sublist).eq_of_length (by have := others_len own l; unfold others at *; omega)
theorem MayC.self {own cap : Int} {l : List D} (h : MayC own cap l) : taken own cap.toNat l = l := by
  unfold taken
  rw [h.bst]
  exact List.take_of_length_le (by have := h.len; omega)
theorem taken_may {own cap : Int} {l : List D} (hn : newOk own cap = true) (hm : l.all may = true) : MayC own cap (taken own cap.toNat l) := by
  have hb := best_is (others own l)
  have hsub : ∀ x ∈ taken own cap.toNat l, x ∈ l := fun x hx => (taken_sub hx).1
  have hc := (newOk_iff own cap).1 hn
  have hl : (taken own cap.toNat l).length ≤ cap.toNat := by unfold taken; simp; omega
  refine ⟨hn, by omega, check_ok (by omega) (all_may_of hm hsub), ?_⟩
  rw [others_self fun x hx => (taken_sub hx).2]
  exact best_of { srt := hb.srt.sublist (List.take_sublist _ _), apart := hb.apart.sublist (List.take_sublist _ _), sub := fun x hx => hx, has := fun d hd => ⟨d, hd, rfl, Int.le_refl _⟩ }
/-- The error of taking in. -/
def mergeC (own cap : Int) (l m : List D) : Int := if mayC own cap l = true then (if check m = 0 then (if 64 < l.length + m.length then 4 else 0) else check m) else 8
def told (own now : Int) (l : List D) : List D := srt ((own, now) :: l)
end De
end Go.Proofs.Ytpjomdkcckamkaa
