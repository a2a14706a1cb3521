/- Nodes: values, boxes, rows (printed by a program of mine). -/
/- mass.Same in a seat whose set lacks it: a walk (printed by a program of mine). -/
/- headcountref20: parts that are great, the same, copied: walks (printed by a program of mine). -/
/- Nodes: whether a life takes part, what it waits for: walks (printed by a program of mine). -/
/- Descriptors in order: walks. -/
/- Deleting by a predicate that may keep a state: walks. -/
/- The best of each node; which one is fresher: walks. -/
/- The statements on descriptors: the chapter's examples; DescTotal. -/
import Derived.Test.YtmbppgjhdcmckaaGreatDoorBi13
import Derived.Test.YtmbppgjhdcmckaaGreatDoorBi12
import Derived.Lib.MinMax
import Derived.Test.YtmbppgjhdcmckaaGreatDoorBi11
import Derived.Test.YtmbppgjhdcmckaaGreatDoorBi02
import Derived.Test.YtmbppgjhdcmckaaGreatDoorBi06
import Derived.Test.YtmbppgjhdcmckaaGreatDoorBi08
import Derived.Test.YtmbppgjhdcmckaaGreatDoorBi07
import Derived.Test.YtmbppgjhdcmckaaGreatDoorBi09
import Derived.Test.YtmbppgjhdcmckaaGreatDoorBi05
import Derived.Test.YtmbppgjhdcmckaaGreatDoorBi10
import Derived.Test.YtmbppgjhdcmckaaGreatDoorBi01
import Derived.Test.YtmbppgjhdcmckaaGreatDoorBi03
import Derived.BigQuiet
import Derived.Test.YtmbppgjhdcmckaaGreatDoorDeShelfZ
import Derived.Shelf.SlSortCmp.NoneTotal
namespace Go.Proofs.YtmbppgjhdcmckaaGreatDoor
open Go.RowKit
namespace No
open De (Descs)
open Ma (Pv PRows LFs Fv cells16)
/-- A node's value. -/
structure Nv where
 id : Int
 val : Int
 up : Bool
 kl : Int
 kt : Int
 ks : Int
 ke : Int
 kf : Int
 P : Pv
 wo : Bool
 wn : Int
 wt : Int
 hA : Option Addr
 hn : Nat
 hc : Nat
 hs : List Int
 own : Int
 cap : Int
 dA : Option Addr
 dn : Nat
 dc : Nat
 ds : List (Int × Int)
 fA : Option Addr
 fn : Nat
 fc : Nat
 fs : List Fv
 tA : Option Addr
 tn : Nat
 tc : Nat
 ts : List (Int × Int)
structure NRows (w : World) (lo hi : Nat) (v : Nv) : Prop where
 P : PRows w lo hi v.P
 H : Ints w lo hi .i64 v.hA v.hn v.hs
 D : Descs w lo hi v.dA v.dn v.ds
 F : LFs w lo hi v.fA v.fn v.fs
 T : Descs w lo hi v.tA v.tn v.ts
def cells33 (v : Nv) : List Value := [.int .i64 v.id, .int .i64 v.val, .bool v.up, .int .i64 v.kl, .int .i64 v.kt, .int .i64 v.ks, .int .i64 v.ke, .int .i64 v.kf, .bool v.P.M.S.s, .slice v.P.M.S.A v.P.M.S.n v.P.M.S.c, .int .i64 v.P.M.S.e, .bool v.P.M.W.s, .slice v.P.M.W.A v.P.M.W.n v.P.M.W.c, .int .i64 v.P.M.W.e, .bool v.P.M.C.s, .slice v.P.M.C.A v.P.M.C.n v.P.M.C.c, .int .i64 v.P.M.C.e, .bool v.P.M.A.s, .slice v.P.M.A.A v.P.M.A.n v.P.M.A.c, .int .i64 v.P.M.A.e, .bool v.P.h, .int .i64 v.P.mn, .int .i64 v.P.mx, .slice v.P.A v.P.n v.P.c, .bool v.wo, .int .i64 v.wn, .int .i64 v.wt, .slice v.hA v.hn v.hc, .int .i64 v.own, .int .i64 v.cap, .slice v.dA v.dn v.dc, .slice v.fA v.fn v.fc, .slice v.tA v.tn v.tc]
def cells3C (v : Nv) : List Value := [.int .i64 v.own, .int .i64 v.cap, .slice v.dA v.dn v.dc]
theorem cells33_one (v : Nv) : ∀ u ∈ cells33 v, u.oneCell' = true := by
 intro u hu
 simp only [cells33, List.mem_cons, List.not_mem_nil, or_false] at hu
 rcases hu with rfl | rfl | rfl | rfl | rfl | rfl | rfl | rfl | rfl | rfl | rfl | rfl | rfl | rfl | rfl | rfl | rfl | rfl | rfl | rfl | rfl | rfl | rfl | rfl | rfl | rfl | rfl | rfl | rfl | rfl | rfl | rfl | rfl <;> rfl
theorem NRows.below {w w' : World} {lo hi B : Nat} {v : Nv} (h : NRows w lo hi v) (hb : Below B w w') (hB : hi ≤ B) : NRows w' lo hi v :=
 ⟨h.P.below hb hB, h.H.below hb hB, h.D.below hb hB, h.F.below hb hB, h.T.below hb hB⟩
theorem NRows.more {w : World} {lo hi lo' hi' : Nat} {v : Nv} (h : NRows w lo hi v) (hl : lo' ≤ lo) (hh : hi ≤ hi') : NRows w lo' hi' v :=
 ⟨h.P.more hl hh, h.H.more hl hh, h.D.more hl hh, h.F.more hl hh, h.T.more hl hh⟩
theorem NRows.on {w w' : World} {v : Nv} (h : NRows w 0 w.heap.size v) (hb : Below w.heap.size w w') : NRows w' 0 w'.heap.size v := (h.below hb (Nat.le_refl _)).more (Nat.le_refl _) hb.size
/-- A node in a block of a type. -/
def NBox (t : TypeId) (w : World) (g : Nat) (v : Nv) : Prop := w.heap[g]? = some (.cells #[.int .i64 v.id, .int .i64 v.val, .bool v.up, .int .i64 v.kl, .int .i64 v.kt, .int .i64 v.ks, .int .i64 v.ke, .int .i64 v.kf, .bool v.P.M.S.s, .slice v.P.M.S.A v.P.M.S.n v.P.M.S.c, .int .i64 v.P.M.S.e, .bool v.P.M.W.s, .slice v.P.M.W.A v.P.M.W.n v.P.M.W.c, .int .i64 v.P.M.W.e, .bool v.P.M.C.s, .slice v.P.M.C.A v.P.M.C.n v.P.M.C.c, .int .i64 v.P.M.C.e, .bool v.P.M.A.s, .slice v.P.M.A.A v.P.M.A.n v.P.M.A.c, .int .i64 v.P.M.A.e, .bool v.P.h, .int .i64 v.P.mn, .int .i64 v.P.mx, .slice v.P.A v.P.n v.P.c, .bool v.wo, .int .i64 v.wn, .int .i64 v.wt, .slice v.hA v.hn v.hc, .int .i64 v.own, .int .i64 v.cap, .slice v.dA v.dn v.dc, .slice v.fA v.fn v.fc, .slice v.tA v.tn v.tc] t (0, 0))
theorem NBox.range {t : TypeId} {w : World} {g : Nat} {v : Nv} (h : NBox t w g v) : w.rangeAt g 0 (cells33 v) := fun j u hj => by
 rw [Nat.zero_add, cell_of_row w g j _ _ _ h]
 simpa [cells33] using hj
theorem NBox.sub {t : TypeId} {w : World} {g : Nat} {v : Nv} (h : NBox t w g v) (o : Nat) (l : List Value) (hl : (cells33 v).drop o = l ++ (cells33 v).drop (o + l.length)) : w.rangeAt g o l := fun j u hj => by
 refine (NBox.range h) (o + j) u ?_ |> fun k => by simpa using k
 have h1 : j < l.length := (List.getElem?_eq_some_iff.1 hj).1
 have h2 : (cells33 v)[o + j]? = ((cells33 v).drop o)[j]? := by rw [List.getElem?_drop]
 rw [h2, hl, List.getElem?_append_left h1]
 exact hj
theorem NBox.part {t : TypeId} {w : World} {g : Nat} {v : Nv} (h : NBox t w g v) : w.rangeAt g 8 (cells16 v.P) := NBox.sub h 8 _ rfl
theorem NBox.cache {t : TypeId} {w : World} {g : Nat} {v : Nv} (h : NBox t w g v) : w.rangeAt g 28 (cells3C v) := NBox.sub h 28 _ rfl
theorem NBox.there {t : TypeId} {w : World} {g : Nat} {v : Nv} (h : NBox t w g v) : w.there g 0 33 := fun j hj =>
 ⟨by rw [(NBox.range h) j _ (List.getElem?_eq_getElem (by simpa [cells33] using hj))]; rfl, frozen_of_row w g _ _ _ h⟩
theorem NBox.at_ {t : TypeId} {w : World} {g : Nat} {v : Nv} (h : NBox t w g v) (j : Nat) (u : Value) (hj : (cells33 v)[j]? = some u) : w.cell? ⟨g, j, none⟩ = some u := by
 have := NBox.range h j u hj
 rwa [Nat.zero_add] at this
theorem alloc_n (t : TypeId) (w : World) (v : Nv) : ∃ U, w.alloc (.cells #[.int .i64 v.id, .int .i64 v.val, .bool v.up, .int .i64 v.kl, .int .i64 v.kt, .int .i64 v.ks, .int .i64 v.ke, .int .i64 v.kf, .bool v.P.M.S.s, .slice v.P.M.S.A v.P.M.S.n v.P.M.S.c, .int .i64 v.P.M.S.e, .bool v.P.M.W.s, .slice v.P.M.W.A v.P.M.W.n v.P.M.W.c, .int .i64 v.P.M.W.e, .bool v.P.M.C.s, .slice v.P.M.C.A v.P.M.C.n v.P.M.C.c, .int .i64 v.P.M.C.e, .bool v.P.M.A.s, .slice v.P.M.A.A v.P.M.A.n v.P.M.A.c, .int .i64 v.P.M.A.e, .bool v.P.h, .int .i64 v.P.mn, .int .i64 v.P.mx, .slice v.P.A v.P.n v.P.c, .bool v.wo, .int .i64 v.wn, .int .i64 v.wt, .slice v.hA v.hn v.hc, .int .i64 v.own, .int .i64 v.cap, .slice v.dA v.dn v.dc, .slice v.fA v.fn v.fc, .slice v.tA v.tn v.tc] t) = U ∧ NBox t U w.heap.size v ∧ Below w.heap.size w U ∧ w.heap.size < U.heap.size :=
 ⟨_, rfl, heap_alloc_last _ _, (Below.refl _ w).alloc (Nat.le_refl _) _, by simp⟩
def ZNv (i : Int) : Nv := ⟨i, 0, false, 0, 0, 0, 0, 0, Ma.ZPv, false, 0, 0, none, 0, 0, [], 0, 0, none, 0, 0, [], none, 0, 0, [], none, 0, 0, []⟩
theorem rowsZN (w : World) (lo hi : Nat) (i : Int) : NRows w lo hi (ZNv i) :=
 ⟨⟨⟨Ints.nil_ .., Ints.nil_ .., Ints.nil_ .., Ints.nil_ ..⟩, Ints.nil_ ..⟩, Ints.nil_ .., Descs.nil_ .., ⟨rfl, Nat.zero_le _, fun h => absurd h (Nat.lt_irrefl 0), fun _ h => absurd h (Nat.not_lt_zero _)⟩, Descs.nil_ ..⟩
end No
end Go.Proofs.YtmbppgjhdcmckaaGreatDoor
namespace Go.Proofs.YtmbppgjhdcmckaaGreatDoor
open Go.RowKit
namespace Ma
open Dp Dy
attribute [local go_sem] Oper.semAt_some
set_option maxHeartbeats 25600000 in
set_option maxRecDepth 100000 in
theorem MSame_anyP (w : World) (a b : Mv) (hA : MRows w 0 w.heap.size a) (hBb : MRows w 0 w.heap.size b) (k : Bool) (hk : sameM a b = k) :
  Calls Tryz.prog 163 #[.agg #[.bool a.S.s, .slice a.S.A a.S.n a.S.c, .int .i64 a.S.e, .bool a.W.s, .slice a.W.A a.W.n a.W.c, .int .i64 a.W.e, .bool a.C.s, .slice a.C.A a.C.n a.C.c, .int .i64 a.C.e, .bool a.A.s, .slice a.A.A a.A.n a.A.c, .int .i64 a.A.e], .agg #[.bool b.S.s, .slice b.S.A b.S.n b.S.c, .int .i64 b.S.e, .bool b.W.s, .slice b.W.A b.W.n b.W.c, .int .i64 b.W.e, .bool b.C.s, .slice b.C.A b.C.n b.C.c, .int .i64 b.C.e, .bool b.A.s, .slice b.A.A b.A.n b.A.c, .int .i64 b.A.e]] w fun e w' => e = .returned (.bool k) ∧ Below w.heap.size w w' := by
 have HK := Lib.hid hk
 clear hk
 have hmx : Tryz.prog.follows .mixedOrders = true := by kernel_rfl
 refine (callsIn_wide (n := 5)).1 ?_
 refine callsIn_of_wp_marks Tryz.func163 rfl trivial ?_ rfl
 simp only [Tryz.ntmps163, List.size_toArray, List.length_cons, List.length_nil, Nat.reduceAdd, Nat.reduceSub, Array.replicate_succ, Array.replicate_zero, List.push_toArray, List.append_toArray, List.nil_append, List.cons_append]
 gi_wp2_with fail
 refine ⟨trivial, (callsIn_wide.2 (parts_any _ _ _)).mono ?_⟩
 rintro e w2 ⟨rfl, rfl⟩
 gi_wp2_with fail
 obtain ⟨W0, hW0⟩ : ∃ W0, ((((w.alloc (.cells #[.bool a.S.s, .slice a.S.A a.S.n a.S.c, .int .i64 a.S.e, .bool a.W.s, .slice a.W.A a.W.n a.W.c, .int .i64 a.W.e, .bool a.C.s, .slice a.C.A a.C.n a.C.c, .int .i64 a.C.e, .bool a.A.s, .slice a.A.A a.A.n a.A.c, .int .i64 a.A.e] 26)).alloc (.cells #[.bool b.S.s, .slice b.S.A b.S.n b.S.c, .int .i64 b.S.e, .bool b.W.s, .slice b.W.A b.W.n b.W.c, .int .i64 b.W.e, .bool b.C.s, .slice b.C.A b.C.n b.C.c, .int .i64 b.C.e, .bool b.A.s, .slice b.A.A b.A.n b.A.c, .int .i64 b.A.e] 26)).alloc (.cells #[.bool false] 4)).alloc (.cells #[.pointer (some ⟨w.heap.size, 0, none⟩)] 185)).alloc (.cells #[.pointer (some ⟨w.heap.size + 1, 0, none⟩)] 185) = W0 := ⟨_, rfl⟩
 obtain ⟨⟨hM0, hN0, hE0, hS1, hS2⟩, hB0, hlo, hhi⟩ := boxes5 w _ _ _ _ _ hW0
 rw [hW0]
 clear hW0
 refine wpIn_rangeFunc_sep2 (F := Fence.wide) rfl (by decide) (gf := 190) (lb := #[.pointer (some ⟨w.heap.size + 1 + 1 + 1, 0, none⟩), .pointer (some ⟨w.heap.size + 1 + 1 + 1 + 1, 0, none⟩)]) rfl trivial (enters_of Tryz.func190 (by kernel_rfl) rfl)
  (parts_seq _ _ _ w.heap.size (w.heap.size + 1) W0 ⟨hS1, hS2⟩) (by omega) (fun _ => rfl)
  (fun pre O W => O (w.heap.size + 1 + 1) ∧ (∀ x, x ∈ pre → x < 4 → sameV (a.get x) (b.get x) = true) ∧ MBox W w.heap.size a ∧ MBox W (w.heap.size + 1) b ∧ W.heap[w.heap.size + 1 + 1]? = some (.cells #[.bool false] 4 (0, 0)) ∧ Below w.heap.size w W)
  (fun j pre O W => j = .ret ∧ sameM a b = false ∧ W.heap[w.heap.size + 1 + 1]? = some (.cells #[.bool false] 4 (0, 0)) ∧ Below w.heap.size w W)
  (fun O s A B row hs hg hr => ⟨hs.1, hs.2.1, heap_own hs.2.2.1 hg (fun r e => (hr r e).2), heap_own hs.2.2.2.1 hg (fun r e => (hr r e).2), heap_own hs.2.2.2.2.1 hg (fun r e => (hr r e).2), hs.2.2.2.2.2.grown hg hs.2.2.2.2.2.size (fun k e => by have := (hr k e).1; omega)⟩)
  (fun j O s A B row hs hg hr => ⟨hs.1, hs.2.1, heap_own hs.2.2.1 hg (fun r e => (hr r e).2), hs.2.2.2.grown hg hs.2.2.2.size (fun k e => by have := (hr k e).1; omega)⟩)
  (fun s O A B row hs hg hr => ⟨hs.1, hs.2.1, heap_loose hs.2.2.1 hg hr (by omega), heap_loose hs.2.2.2.1 hg hr (by omega), heap_loose hs.2.2.2.2.1 hg hr (by omega), below_loose hs.2.2.2.2.2 (Nat.le_refl _) hg hr (by omega)⟩)
  (fun j s O A B row hs hg hr => ⟨hs.1, hs.2.1, heap_loose hs.2.2.1 hg hr (by omega), below_loose hs.2.2.2 (Nat.le_refl _) hg hr (by omega)⟩)
  (fun k => k = w.heap.size + 1 + 1) (fun k hk e => by omega) (fun k e => by omega) ⟨rfl, (fun x hx => absurd hx (List.not_mem_nil)), hM0, hN0, hE0, hB0⟩
  (fun x a' W => a' = { tmps := #[.agg #[.bool a.S.s, .slice a.S.A a.S.n a.S.c, .int .i64 a.S.e, .bool a.W.s, .slice a.W.A a.W.n a.W.c, .int .i64 a.W.e, .bool a.C.s, .slice a.C.A a.C.n a.C.c, .int .i64 a.C.e, .bool a.A.s, .slice a.A.A a.A.n a.A.c, .int .i64 a.A.e], .agg #[.bool b.S.s, .slice b.S.A b.S.n b.S.c, .int .i64 b.S.e, .bool b.W.s, .slice b.W.A b.W.n b.W.c, .int .i64 b.W.e, .bool b.C.s, .slice b.C.A b.C.n b.C.c, .int .i64 b.C.e, .bool b.A.s, .slice b.A.A b.A.n b.A.c, .int .i64 b.A.e], .pointer (some ⟨w.heap.size, 0, none⟩), .pointer (some ⟨w.heap.size + 1, 0, none⟩), .pointer (some ⟨w.heap.size + 1 + 1, 0, none⟩), .pointer (some ⟨w.heap.size, 3 * x, none⟩), .pointer (some ⟨w.heap.size + 1, 3 * x, none⟩),
   .func (.func 190) #[] #[.pointer (some ⟨w.heap.size + 1 + 1 + 1, 0, none⟩), .pointer (some ⟨w.heap.size + 1 + 1 + 1 + 1, 0, none⟩)], .pointer (some ⟨w.heap.size, 3 * x, none⟩), .pointer (some ⟨w.heap.size + 1, 3 * x, none⟩), undef, undef, undef, undef, undef, undef, undef, undef], defers := [] })
  (fun x a' _ _ _ _ h _ _ => h) ?assign ?body ?done ?stop
 case assign =>
  intro l pre x O W K hgx hsW hi hK
  unfold encM
  gi_wp2
  exact hK _ _ (KeepsFrom.refl _ _) (Gain.refl _ _) hi rfl
 case body =>
  rintro l pre x O a' W ⟨hx4, hpre⟩ hsW ⟨hO, hall, hM, hN, hE, hb⟩ rfl _
  have hrow : Ints W 0 W.heap.size .u32 (a.get x).A (a.get x).n (a.get x).xs := ((hA.get x).below hb (Nat.le_refl _)).more (Nat.le_refl _) hb.size
  have hrow2 : Ints W 0 W.heap.size .u32 (b.get x).A (b.get x).n (b.get x).xs := ((hBb.get x).below hb (Nat.le_refl _)).more (Nat.le_refl _) hb.size
  have hcm := MBox.at_ hM hx4
  have hcn := MBox.at_ hN hx4
  generalize hd : a.get x = d at hcm hrow
  generalize hd' : b.get x = d' at hcn hrow2
  have HD := Lib.hid hd
  have HD' := Lib.hid hd'
  clear hd hd'
  obtain ⟨r, hr⟩ : ∃ r, sameV d d' = r := ⟨_, rfl⟩
  have HR := Lib.hid hr
  clear hr
  gi_wp2
  refine roundRegion_E (Keeps W) [] (m := 8) (L := #[zF,zF,zF,zF,zF,zF,zF,zF]) hmx (by kernel_rfl) (fun _ _ h => h) (by rfl) (by rfl) ?_
  have kD : Keeps W W.drew := fun _ _ => rfl
  refine zE 0 #[zT,zF,zF,zF,zF,zF,zF,zF] ?_ rfl ?hy1 ?rest1
  case hy1 => intro w; go_simp; (try with_reducible rfl)
  try simp only [Act.put, zp]
  refine zE 1 #[zT,zT,zF,zF,zF,zF,zF,zF] ?_ rfl ?hy2 ?rest2
  case hy2 => intro w; go_simp; (try with_reducible rfl)
  try simp only [Act.put, zp]
  refine readE (i := 2) (L := #[zT,zT,zT,zF,zF,zF,zF,zF]) (v := .agg #[.bool d.s, .slice d.A d.n d.c, .int .i64 d.e]) rfl (by rfl) (by kernel_rfl) (by kernel_rfl) (by kernel_rfl) (fun _ _ _ h => h) (by assumption) (by rfl) ?ry2 ?rr2
  case ry2 =>
   intro w' h1
   obtain ⟨⟨k1, k2, k3⟩, _⟩ := MBox.at_ ((h1 _ (by omega)).trans hM) hx4
   rw [HD.out] at k1 k2 k3
   go_simp
  try simp only [Act.put, zp]
  refine zE 3 #[zT,zT,zT,zT,zF,zF,zF,zF] ?_ rfl ?hy4 ?rest4
  case hy4 => intro w; go_simp; (try with_reducible rfl)
  try simp only [Act.put, zp]
  refine zE 4 #[zT,zT,zT,zT,zT,zF,zF,zF] ?_ rfl ?hy5 ?rest5
  case hy5 => intro w; go_simp; (try with_reducible rfl)
  try simp only [Act.put, zp]
  refine readE (i := 5) (L := #[zT,zT,zT,zT,zT,zT,zF,zF]) (v := .agg #[.bool d'.s, .slice d'.A d'.n d'.c, .int .i64 d'.e]) rfl (by rfl) (by kernel_rfl) (by kernel_rfl) (by kernel_rfl) (fun _ _ _ h => h) (by assumption) (by rfl) ?ry5 ?rr5
  case ry5 =>
   intro w' h1
   obtain ⟨⟨k1, k2, k3⟩, _⟩ := MBox.at_ ((h1 _ (by omega)).trans hN) hx4
   rw [HD'.out] at k1 k2 k3
   go_simp
  try simp only [Act.put, zp]
  refine stepK (i := 6) (L := #[zT,zT,zT,zT,zT,zT,zT,zF]) rfl (by rfl) (by kernel_rfl) (by rfl) (fun K hK => ?_)
  go_simp
  go_at_call 43
  refine (Pa.dyadSame_any W.drew _ _ _ _ _ _ _ _ _ _ _ _ (hrow.drewN 1) (hrow2.drewN 1) r HR.out).mono ?_
  rintro e W2 ⟨rfl, hB'⟩
  have hB : Below W.heap.size W W2 := (Below.refl _ W).drew.trans hB'
  clear hB'
  refine hK _ _ ⟨fun _ _ p hp => hB.block p hp, ?_⟩
  clear hK K
  try simp only [Act.put, zp]
  refine zE 7 #[zT,zT,zT,zT,zT,zT,zT,zT] ?_ rfl ?hy8 ?rest8
  case hy8 => intro w; go_simp; (try with_reducible rfl)
  try simp only [Act.put, zp]
  refine doneE (by kernel_rfl) ?_ _
  have hE2 := box_on hE hB (by omega)
  obtain ⟨e3, e4⟩ := cells1 hE2
  cases r
  · gi_wp2
    refine ⟨(keeps_below hB).trans ((KeepsOthers.setCell _ _ _).from _), O, (gain_below hB).trans (gain_set hO _), rfl, ?_, set1 hE2 _, (hb.trans (hB.mono hb.size)).setCell (by simp <;> omega) _⟩
    refine Bool.eq_false_iff.2 fun h => ?_
    have := (sameM_iff a b).1 h x hx4
    rw [HD.out, HD'.out, HR.out] at this
    cases this
  · gi_wp2
    refine ⟨keeps_below hB, O, gain_below hB, hO, fun y hy hy4 => ?_, box_on hM hB (by omega), box_on hN hB (by omega), hE2, hb.trans (hB.mono hb.size)⟩
    rcases List.mem_append.1 hy with h | h
    · exact hall y h hy4
    · rw [List.mem_singleton.1 h, HD.out, HD'.out]
      exact HR.out
 case done =>
  rintro D ys O W hD hS ⟨hO, hall, hM, hN, hE, hb⟩ hK
  obtain ⟨e1, e2⟩ := cells1 hE
  have hk := HK.out
  rw [show sameM a b = true from (sameM_iff a b).2 fun x hx => hall x (by rw [hS]; simp; omega) hx] at hk
  subst hk
  clear hS hall
  gi_wp2
  have hK' := (KeepsOthers.setCell W ⟨w.heap.size + 1 + 1, 0, none⟩ (.bool true)).same D _ hK rfl
  have c1 := cells1 ((World.putObj_heap_other (o := .deferred none) (by omega : w.heap.size + 1 + 1 ≠ D)).trans (set1 hE (.bool true)))
  refine ⟨by simp, .inl ⟨_, _, rfl, run_takeDeferred hK', ?_⟩⟩
  refine ⟨.bool true, ?_, rfl, ?_⟩
  · simp [results, Tryz.f163, go_sem, c1.1]
  · exact (hb.setCell (by simp <;> omega) _).trans (belowK_b (w := w) (Nat.le_refl _) _ D _ _ (by omega) hK' rfl rfl)
 case stop =>
  rintro D j pre O W hD hSp ⟨rfl, hm, hE, hb⟩ hK
  have hk := HK.out
  rw [hm] at hk
  subst hk
  gi_wp2
  have c1 := cells1 ((World.putObj_heap_other (o := .deferred none) (by omega : w.heap.size + 1 + 1 ≠ D)).trans hE)
  refine ⟨by simp, .inl ⟨_, _, rfl, run_takeDeferred hK, ?_⟩⟩
  refine ⟨.bool false, ?_, rfl, ?_⟩
  · simp [results, Tryz.f163, go_sem, c1.1]
  · exact hb.trans (belowK_b (w := w) (Nat.le_refl _) _ D _ _ (by omega) hK rfl rfl)
end Ma
end Go.Proofs.YtmbppgjhdcmckaaGreatDoor
namespace Go.Proofs.YtmbppgjhdcmckaaGreatDoor
open Go.RowKit
namespace Ma
open Dp Dy
set_option maxHeartbeats 6400000 in
set_option maxRecDepth 100000 in
/-- headcountref20.GreatPart. -/
theorem GreatPart_any (w : World) (p : Pv) (hR : PRows w 0 w.heap.size p) (k : Bool) (hk : greatP p = k) :
  Calls Tryz.prog 7 #[.agg #[.bool p.M.S.s, .slice p.M.S.A p.M.S.n p.M.S.c, .int .i64 p.M.S.e, .bool p.M.W.s, .slice p.M.W.A p.M.W.n p.M.W.c, .int .i64 p.M.W.e, .bool p.M.C.s, .slice p.M.C.A p.M.C.n p.M.C.c, .int .i64 p.M.C.e, .bool p.M.A.s, .slice p.M.A.A p.M.A.n p.M.A.c, .int .i64 p.M.A.e, .bool p.h, .int .i64 p.mn, .int .i64 p.mx, .slice p.A p.n p.c]] w fun e w' => e = .returned (.bool k) ∧ Below w.heap.size w w' := by
 obtain ⟨w1, hw, bP, j1, S1⟩ := alloc_p w p
 obtain ⟨q, hq⟩ : ∃ q, greatM p.M = q := ⟨_, rfl⟩
 have HQ := Lib.hid hq
 have HK := Lib.hid hk
 clear hq hk
 go_enter Tryz.func7, Tryz.ntmps7
 obtain ⟨⟨q1_0, q1_1, q1_2, q1_3, q1_4, q1_5, q1_6, q1_7, q1_8, q1_9, q1_10, q1_11, q1_12, q1_13, q1_14, q1_15⟩, q1f⟩ := PBox.cell bP
 go_wp2_with fail
 refine (RGreat_any w1 p.M (PRows.on hR j1).M q HQ.out).mono ?_
 rintro e' v2 ⟨rfl, j3⟩
 clear q1_0 q1_1 q1_2 q1_3 q1_4 q1_5 q1_6 q1_7 q1_8 q1_9 q1_10 q1_11 q1_12 q1_13 q1_14 q1_15 q1f
 try clear hw
 obtain ⟨⟨q4_0, q4_1, q4_2, q4_3, q4_4, q4_5, q4_6, q4_7, q4_8, q4_9, q4_10, q4_11, q4_12, q4_13, q4_14, q4_15⟩, q4f⟩ := PBox.cell (box_later bP j3 S1)
 cases q
 rotate_left
 · skip
   have hk' : k = true := by rw [← HK.out, greatP, HQ.out]; rfl
   subst hk'
   clear HK HQ
   go_wp2
   go_ret
   exact ⟨rfl, (later j1 j3)⟩
 · skip
   by_cases hn : (70 : Int) < (p.n : Int)
   · skip
     have hk' : k = true := by rw [← HK.out, greatP, HQ.out, decide_eq_true (show 70 < p.n by omega)]; rfl
     subst hk'
     clear HK HQ
     go_wp2
     go_ret
     exact ⟨rfl, (later j1 j3)⟩
   · skip
     have hk' : k = false := by rw [← HK.out, greatP, HQ.out, decide_eq_false (show ¬ 70 < p.n by omega)]; rfl
     subst hk'
     clear HK HQ
     have hnb : decide ((70 : Int) < (p.n : Int)) = false := decide_eq_false hn
     clear hn
     go_wp2
     go_ret
     exact ⟨rfl, (later j1 j3)⟩
set_option maxHeartbeats 12800000 in
set_option maxRecDepth 100000 in
/-- past.SamePart. -/
theorem SamePart_any (w : World) (a b : Pv) (hA : PRows w 0 w.heap.size a) (hB : PRows w 0 w.heap.size b) (k : Bool) (hk : sameP a b = k) :
  Calls Tryz.prog 109 #[.agg #[.bool a.M.S.s, .slice a.M.S.A a.M.S.n a.M.S.c, .int .i64 a.M.S.e, .bool a.M.W.s, .slice a.M.W.A a.M.W.n a.M.W.c, .int .i64 a.M.W.e, .bool a.M.C.s, .slice a.M.C.A a.M.C.n a.M.C.c, .int .i64 a.M.C.e, .bool a.M.A.s, .slice a.M.A.A a.M.A.n a.M.A.c, .int .i64 a.M.A.e, .bool a.h, .int .i64 a.mn, .int .i64 a.mx, .slice a.A a.n a.c], .agg #[.bool b.M.S.s, .slice b.M.S.A b.M.S.n b.M.S.c, .int .i64 b.M.S.e, .bool b.M.W.s, .slice b.M.W.A b.M.W.n b.M.W.c, .int .i64 b.M.W.e, .bool b.M.C.s, .slice b.M.C.A b.M.C.n b.M.C.c, .int .i64 b.M.C.e, .bool b.M.A.s, .slice b.M.A.A b.M.A.n b.M.A.c, .int .i64 b.M.A.e, .bool b.h, .int .i64 b.mn, .int .i64 b.mx, .slice b.A b.n b.c]] w fun e w' => e = .returned (.bool k) ∧ Below w.heap.size w w' := by
 generalize hw : (w.alloc (.cells #[.bool a.M.S.s, .slice a.M.S.A a.M.S.n a.M.S.c, .int .i64 a.M.S.e, .bool a.M.W.s, .slice a.M.W.A a.M.W.n a.M.W.c, .int .i64 a.M.W.e, .bool a.M.C.s, .slice a.M.C.A a.M.C.n a.M.C.c, .int .i64 a.M.C.e, .bool a.M.A.s, .slice a.M.A.A a.M.A.n a.M.A.c, .int .i64 a.M.A.e, .bool a.h, .int .i64 a.mn, .int .i64 a.mx, .slice a.A a.n a.c] 30)).alloc (.cells #[.bool b.M.S.s, .slice b.M.S.A b.M.S.n b.M.S.c, .int .i64 b.M.S.e, .bool b.M.W.s, .slice b.M.W.A b.M.W.n b.M.W.c, .int .i64 b.M.W.e, .bool b.M.C.s, .slice b.M.C.A b.M.C.n b.M.C.c, .int .i64 b.M.C.e, .bool b.M.A.s, .slice b.M.A.A b.M.A.n b.M.A.c, .int .i64 b.M.A.e, .bool b.h, .int .i64 b.mn, .int .i64 b.mx, .slice b.A b.n b.c] 30) = w1
 obtain ⟨bA, bB, j1, lo1, hi1⟩ := boxes2 w _ _ hw
 replace bA : PBox w1 w.heap.size a := bA
 replace bB : PBox w1 (w.heap.size + 1) b := bB
 replace j1 : Below w.heap.size w w1 := j1
 have S1 : w.heap.size < w1.heap.size := by omega
 have S2 : w.heap.size + 1 < w1.heap.size := by omega
 obtain ⟨q, hq⟩ : ∃ q, sameM a.M b.M = q := ⟨_, rfl⟩
 obtain ⟨r, hr⟩ : ∃ q, Pa.Sm a.xs b.xs = q := ⟨_, rfl⟩
 have HQ := Lib.hid hq
 have HR := Lib.hid hr
 have HK := Lib.hid hk
 clear hq hr hk
 go_enter Tryz.func109, Tryz.ntmps109
 obtain ⟨⟨q11_0, q11_1, q11_2, q11_3, q11_4, q11_5, q11_6, q11_7, q11_8, q11_9, q11_10, q11_11, q11_12, q11_13, q11_14, q11_15⟩, q11f⟩ := PBox.cell bA
 obtain ⟨⟨q12_0, q12_1, q12_2, q12_3, q12_4, q12_5, q12_6, q12_7, q12_8, q12_9, q12_10, q12_11, q12_12, q12_13, q12_14, q12_15⟩, q12f⟩ := PBox.cell bB
 go_wp2_with fail
 refine (MSame_anyP w1 a.M b.M (PRows.on hA j1).M (PRows.on hB j1).M q HQ.out).mono ?_
 rintro e' v13 ⟨rfl, j14⟩
 clear q11_0 q11_1 q11_2 q11_3 q11_4 q11_5 q11_6 q11_7 q11_8 q11_9 q11_10 q11_11 q11_12 q11_13 q11_14 q11_15 q11f q12_0 q12_1 q12_2 q12_3 q12_4 q12_5 q12_6 q12_7 q12_8 q12_9 q12_10 q12_11 q12_12 q12_13 q12_14 q12_15 q12f
 try clear hw
 obtain ⟨⟨q15_0, q15_1, q15_2, q15_3, q15_4, q15_5, q15_6, q15_7, q15_8, q15_9, q15_10, q15_11, q15_12, q15_13, q15_14, q15_15⟩, q15f⟩ := PBox.cell (box_later bA j14 S1)
 obtain ⟨⟨q16_0, q16_1, q16_2, q16_3, q16_4, q16_5, q16_6, q16_7, q16_8, q16_9, q16_10, q16_11, q16_12, q16_13, q16_14, q16_15⟩, q16f⟩ := PBox.cell (box_later bB j14 S2)
 cases q
 · skip
   have hk' : k = false := by rw [← HK.out, sameP, HQ.out]; rfl
   subst hk'
   clear HK HQ HR
   go_wp2
   go_ret
   exact ⟨rfl, (later j1 j14)⟩
 · skip
   by_cases e1 : a.h = b.h
   rotate_left
   · skip
     have hk' : k = false := by
      rw [← HK.out, sameP, HQ.out, sameE, decide_eq_false e1]
      simp
     subst hk'
     have eb : (a.h == b.h) = false := by simpa using e1
     clear HK HQ HR
     go_wp2
     go_ret
     exact ⟨rfl, (later j1 j14)⟩
   · skip
     rw [e1] at q15_12
     replace e1 := Lib.hid e1
     by_cases e2 : a.mn = b.mn
     rotate_left
     · skip
       have hk' : k = false := by
        rw [← HK.out, sameP, HQ.out, sameE, decide_eq_false e2]
        simp
       subst hk'
       have eb : (a.mn == b.mn) = false := by simpa using e2
       clear HK HQ HR
       go_wp2
       go_ret
       exact ⟨rfl, (later j1 j14)⟩
     · skip
       rw [e2] at q15_13
       replace e2 := Lib.hid e2
       by_cases e3 : a.mx = b.mx
       rotate_left
       · skip
         have hk' : k = false := by
          rw [← HK.out, sameP, HQ.out, sameE, decide_eq_false e3]
          simp
         subst hk'
         have eb : (a.mx == b.mx) = false := by simpa using e3
         clear HK HQ HR
         go_wp2
         go_ret
         exact ⟨rfl, (later j1 j14)⟩
       · skip
         rw [e3] at q15_14
         replace e3 := Lib.hid e3
         have hk' : k = r := by
          rw [← HK.out, sameP, HQ.out, HR.out, sameE, e1.out, e2.out, e3.out]
          simp
         subst hk'
         have HRR := Lib.hid HR.out
         clear HK HQ HR e1 e2 e3
         go_wp2_with fail
         refine (Pa.Equal_any v13 0 v13.heap.size 0 v13.heap.size _ _ _ _ _ _ _ _ (PRows.on hA (later j1 j14)).L (PRows.on hB (later j1 j14)).L k HRR.out).mono ?_
         rintro e' v_ ⟨rfl, m_, rfl⟩
         have jd : Below w.heap.size w (v13.drewN m_) := below_drewN (later j1 j14) m_
         cases k
         · skip
           go_wp2
           go_ret
           exact ⟨rfl, jd⟩
         · skip
           go_wp2
           go_ret
           exact ⟨rfl, jd⟩
end Ma
end Go.Proofs.YtmbppgjhdcmckaaGreatDoor
namespace Go.Proofs.YtmbppgjhdcmckaaGreatDoor
open Go.RowKit
namespace No
open Ma (Pv PRows sameP)
open Dy
def takesN (v : Nv) : Bool := decide (v.kf ≤ v.ke)
/-- May a Wait be? -/
def waitN (v : Nv) : Bool := if v.wo = false then decide (v.wn = 0 ∧ v.wt = 0) else takesN v && decide ((0 ≤ v.wn ∧ v.wn ≤ 1048575) ∧ (0 ≤ v.wt ∧ v.wt < 8) ∧ v.wt ≠ v.id)
theorem NBox.drewN {t : TypeId} {w : World} {g : Nat} {v : Nv} (h : NBox t w g v) (m : Nat) : NBox t (w.drewN m) g v := h
theorem quiet_add (w : World) (a b : Nat) : (w.drewN a).drewN b = w.drewN (a + b) := drewN_add ..
set_option maxHeartbeats 3200000 in
set_option maxRecDepth 100000 in
/-- (*node.one).takes. -/
theorem takes_any (w : World) (g : Nat) (v : Nv) (hB : NBox 107 w g v) (k : Bool) (hk : takesN v = k) :
  Calls Tryz.prog 118 #[.pointer (some ⟨g, 0, none⟩)] w fun e w' => e = .returned (.bool k) ∧ ∃ m, w' = w.drewN m := by
 have c6 : w.cell? ⟨g, 6, none⟩ = some (.int .i64 v.ke) := NBox.at_ hB 6 _ rfl
 have c7 : w.cell? ⟨g, 7, none⟩ = some (.int .i64 v.kf) := NBox.at_ hB 7 _ rfl
 have HK := Lib.hid hk
 clear hk hB
 go_enter Tryz.func118, Tryz.ntmps118
 go_wp2
 go_quiet (fail)
 go_wp2
 go_ret
 exact ⟨by rw [← HK.out]; rfl, _, rfl⟩
theorem eqlW (w : World) (b d : Int) : (binOp .eql 55 (.agg #[.bool false, .int .i64 b, .int .i64 d]) (.agg #[.bool false, .int .i64 0, .int .i64 0])).run Tryz.prog w = .ok (.bool (b == 0 && d == 0)) w := by
 have u3 := Tryz.underlying3
 have u4 := Tryz.underlying4
 have hS : Tryz.prog.underlying 55 = some (.struct (Tryz.prog.fieldsOf 55)) := by kernel_rfl
 have hp : Tryz.prog.stoodInHeld 55 = false := by kernel_rfl
 rw [run_eql_struct, show (10000 : Nat) = 9999 + 1 from rfl, run_equalIn_agg w 9999 55 _ _ hS hp]
 simp only [Program.fieldsOf, Tryz.underlying55]
 go_simp
 by_cases h1 : b = 0 <;> by_cases h2 : d = 0 <;> simp [h1, h2]
set_option maxHeartbeats 12800000 in
set_option maxRecDepth 100000 in
/-- (*node.one).waits. -/
theorem waits_any (w : World) (g : Nat) (v : Nv) (hB : NBox 107 w g v) (k : Bool) (hk : waitN v = k) :
  Calls Tryz.prog 119 #[.pointer (some ⟨g, 0, none⟩)] w fun e w' => e = .returned (.bool k) ∧ ∃ m, w' = w.drewN m := by
 have c0 : w.cell? ⟨g, 0, none⟩ = some (.int .i64 v.id) := NBox.at_ hB 0 _ rfl
 have c24 : w.cell? ⟨g, 24, none⟩ = some (.bool v.wo) := NBox.at_ hB 24 _ rfl
 have c25 : w.cell? ⟨g, 25, none⟩ = some (.int .i64 v.wn) := NBox.at_ hB 25 _ rfl
 have c26 : w.cell? ⟨g, 26, none⟩ = some (.int .i64 v.wt) := NBox.at_ hB 26 _ rfl
 have HK := Lib.hid hk
 have HB := Lib.hid hB
 obtain ⟨o, ho⟩ : ∃ o, v.wo = o := ⟨_, rfl⟩
 rw [ho] at c24
 have HO := Lib.hid ho
 clear hk ho hB
 cases o
 · have heq := eqlW
   obtain ⟨r, hr⟩ : ∃ r, (v.wn == 0 && v.wt == 0) = r := ⟨_, rfl⟩
   have hk : k = r := by
    rw [← HK.out, ← hr]
    unfold waitN
    rw [if_pos HO.out]
    by_cases h1 : v.wn = 0 <;> by_cases h2 : v.wt = 0 <;> simp [h1, h2]
   subst hk
   go_enter Tryz.func119, Tryz.ntmps119
   go_wp2
   go_ret
   exact ⟨rfl, 0, rfl⟩
 · obtain ⟨t, ht⟩ : ∃ t, takesN v = t := ⟨_, rfl⟩
   have HT := Lib.hid ht
   clear ht
   have hk : k = (t && decide ((0 ≤ v.wn ∧ v.wn ≤ 1048575) ∧ (0 ≤ v.wt ∧ v.wt < 8) ∧ v.wt ≠ v.id)) := by
    rw [← HK.out, ← HT.out]
    unfold waitN
    rw [if_neg (by rw [HO.out]; simp)]
   have HK2 := Lib.hid hk
   clear hk HK
   cases t
   · skip
     obtain rfl : k = false := by rw [HK2.out]; rfl
     go_enter Tryz.func119, Tryz.ntmps119
     go_wp2
     go_quiet (first | (go_at_call 118; refine (takes_any _ g v (HB.out.drewN _) false HT.out).mono ?_; rintro e_ w_ ⟨rfl, m_, rfl⟩; exact ⟨rfl, _, quiet_add ..⟩))
     go_wp2
     go_ret
     exact ⟨rfl, _, rfl⟩
   · skip
     by_cases q5 : 0 ≤ v.wn
     case neg =>
      have hd := decide_eq_false q5
      obtain rfl : k = false := by rw [HK2.out]; rw [Bool.true_and]; exact decide_eq_false (by omega)
      go_enter Tryz.func119, Tryz.ntmps119
      go_wp2
      go_quiet (first | (go_at_call 118; refine (takes_any _ g v (HB.out.drewN _) true HT.out).mono ?_; rintro e_ w_ ⟨rfl, m_, rfl⟩; exact ⟨rfl, _, quiet_add ..⟩))
      go_wp2
      go_ret
      exact ⟨rfl, _, rfl⟩
     by_cases q7 : v.wn ≤ 1048575
     case neg =>
      have hd := decide_eq_false q7
      obtain rfl : k = false := by rw [HK2.out]; rw [Bool.true_and]; exact decide_eq_false (by omega)
      go_enter Tryz.func119, Tryz.ntmps119
      go_wp2
      go_quiet (first | (go_at_call 118; refine (takes_any _ g v (HB.out.drewN _) true HT.out).mono ?_; rintro e_ w_ ⟨rfl, m_, rfl⟩; exact ⟨rfl, _, quiet_add ..⟩))
      go_wp2
      go_ret
      exact ⟨rfl, _, rfl⟩
     by_cases q9 : 0 ≤ v.wt
     case neg =>
      have hd := decide_eq_false q9
      obtain rfl : k = false := by rw [HK2.out]; rw [Bool.true_and]; exact decide_eq_false (by omega)
      go_enter Tryz.func119, Tryz.ntmps119
      go_wp2
      go_quiet (first | (go_at_call 118; refine (takes_any _ g v (HB.out.drewN _) true HT.out).mono ?_; rintro e_ w_ ⟨rfl, m_, rfl⟩; exact ⟨rfl, _, quiet_add ..⟩))
      go_wp2
      go_ret
      exact ⟨rfl, _, rfl⟩
     by_cases q11 : v.wt < 8
     case neg =>
      have hd := decide_eq_false q11
      obtain rfl : k = false := by rw [HK2.out]; rw [Bool.true_and]; exact decide_eq_false (by omega)
      go_enter Tryz.func119, Tryz.ntmps119
      go_wp2
      go_quiet (first | (go_at_call 118; refine (takes_any _ g v (HB.out.drewN _) true HT.out).mono ?_; rintro e_ w_ ⟨rfl, m_, rfl⟩; exact ⟨rfl, _, quiet_add ..⟩))
      go_wp2
      go_ret
      exact ⟨rfl, _, rfl⟩
     obtain ⟨bq, hbq⟩ : ∃ b, (v.wt != v.id) = b := ⟨_, rfl⟩
     cases bq
     case false =>
      have heq := Lib.hid (show v.wt = v.id by simpa using hbq)
      obtain rfl : k = false := by have := heq.out; rw [HK2.out, Bool.true_and]; exact decide_eq_false (by omega)
      go_enter Tryz.func119, Tryz.ntmps119
      go_wp2
      go_quiet (first | (go_at_call 118; refine (takes_any _ g v (HB.out.drewN _) true HT.out).mono ?_; rintro e_ w_ ⟨rfl, m_, rfl⟩; exact ⟨rfl, _, quiet_add ..⟩))
      go_wp2
      go_ret
      exact ⟨rfl, _, rfl⟩
     have hne := Lib.hid (show v.wt ≠ v.id by simpa using hbq)
     obtain rfl : k = true := by have := hne.out; rw [HK2.out, Bool.true_and]; exact decide_eq_true (by omega)
     go_enter Tryz.func119, Tryz.ntmps119
     go_wp2
     go_quiet (first | (go_at_call 118; refine (takes_any _ g v (HB.out.drewN _) true HT.out).mono ?_; rintro e_ w_ ⟨rfl, m_, rfl⟩; exact ⟨rfl, _, quiet_add ..⟩))
     go_wp2
     go_ret
     exact ⟨rfl, _, rfl⟩
end No
end Go.Proofs.YtmbppgjhdcmckaaGreatDoor
namespace Go.Proofs.YtmbppgjhdcmckaaGreatDoor
open Go.RowKit Go.Sort Go.Shelf
namespace De
set_option maxHeartbeats 400000 in
/-- desc.Order's closure. -/
theorem ord_closure (W : World) (x y z u : Int) (r : Int) (hr : cf (x, y) (z, u) = r) :
  Calls Tryz.prog 216 #[.agg #[.int .i64 x, .int .i64 y], .agg #[.int .i64 z, .int .i64 u]] W fun e w' => e = .returned (.int .i64 r) ∧ ∃ q os, w' = grow (W.drewN q) os := by
 have HR := Lib.hid hr
 clear hr
 go_enter Tryz.func216, Tryz.ntmps216
 go_wp2_with fail
 refine (comp_any _ x y z u r HR.out).mono ?_
 rintro e w' ⟨rfl, q, os, rfl⟩
 go_wp2
 go_ret
 exact ⟨rfl, q, #[_, _] ++ os, by rw [alloc_eq_grow, alloc_eq_grow, grow_grow]; show grow (grow (W.drewN q) _) os = _; rw [grow_grow]; rfl⟩
theorem cmpLays (blk off size : Nat) (w : World) : CmpLays Tryz.prog 216 #[] encD 2 cf blk off size w :=
 fun _ _ _ _ x y => ord_closure _ x.1 x.2 y.1 y.2 _ rfl
theorem ltOf_cf (x y : Int × Int) : ltOf cf x y = ltB x y := cf_lt x y
theorem swo : SWO (ltOf cf) where
 irrefl x := by rw [ltOf_cf]; exact lt_irr x
 trans x y z h1 h2 := by rw [ltOf_cf] at *; exact lt_trans h1 h2
 ntrans x y z h1 h2 := by rw [ltOf_cf] at *; exact lt_ntrans h1 h2
theorem agg_D : ∀ w, (isAgg 195).run Tryz.prog w = .ok true w := Tryz.isAgg195
theorem size_D : ∀ w, (Go.sizeOf 195).run Tryz.prog w = .ok 2 w := Tryz.sizeOf195
theorem holds_of {w : World} {lo hi b off n : Nat} {xs : List (Int × Int)} (h : Descs w lo hi (some ⟨b, off, none⟩) n xs) : HoldsK encD 2 w b off xs.toArray := by
 intro t ht
 rw [size_flatK] at ht
 have hl := h.len
 simp only [List.size_toArray] at ht
 rw [get_flatK _ _ _ _ (by simpa using ht)]
 obtain ⟨b', off', e, _, _, hc⟩ := h.row (by omega)
 injection e with e
 injection e with e1 e2
 subst e1
 subst e2
 obtain ⟨⟨a1, a2⟩, a3, a4⟩ := hc (t / 2) (by omega)
 have hx : xs.toArray[t / 2]! = xs[t / 2]?.getD (0, 0) := by
  rw [getElem!_pos xs.toArray (t / 2) (by simp; omega), List.getElem?_eq_getElem (by omega)]
  rfl
 rw [hx]
 rcases Nat.mod_two_eq_zero_or_one t with he | he
 · rw [he]
   have ej : off + t = off + t / 2 * 2 := by omega
   rw [ej]
   exact ⟨a1, a2⟩
 · rw [he]
   have ej : off + t = off + t / 2 * 2 + 1 := by omega
   rw [ej]
   exact ⟨a3, a4⟩
theorem of_holds {w : World} {b off : Nat} {d : Array (Int × Int)} (h : HoldsK encD 2 w b off d) (hw : ∀ x ∈ d.toList, Rng x) (hn : d.size ≤ 9223372036854775807) : Descs w b (b + 1) (some ⟨b, off, none⟩) d.size d.toList := by
 refine ⟨by simp, hw, hn, fun _ => ⟨b, off, rfl, Nat.le_refl _, by omega, fun j hj => ?_⟩⟩
 have hx : d.toList[j]?.getD (0, 0) = d[j]! := by
  rw [getElem!_pos d j hj, Array.getElem?_toList, Array.getElem?_eq_getElem hj]
  rfl
 rw [hx]
 have c0 := h.cell (i := j) (c := 0) hj (by omega)
 have c1 := h.cell (i := j) (c := 1) hj (by omega)
 exact ⟨c0, c1⟩
theorem below_sort {B : Nat} {w : World} {b off m : Nat} {d : Array (Int × Int)} {os : Array Obj} (hB : B ≤ b) (hb : b < w.heap.size) : Below B w (sortWorldK encD 2 w b off m d os) := by
 refine ⟨rfl, rfl, rfl, size_sortWorldK_c encD 2 w b off m d os, fun k hk => ?_⟩
 unfold sortWorldK
 rw [heap_grow_old _ _ (by rw [size_putRowK]; show k < w.heap.size; omega)]
 show (w.heap.modify b _)[k]? = _
 rw [Array.getElem?_modify, if_neg (by omega)]
def OrdPost (w : World) (n : Nat) (xs : List (Int × Int)) (e : Ending) (w' : World) : Prop :=
 ∃ A' c' rb, e = .returned (.tuple #[.slice A' n c', .int .i64 0]) ∧ n ≤ c' ∧ Below w.heap.size w w' ∧ (0 < n → w.heap.size ≤ rb) ∧ rb < w'.heap.size ∧ Descs w' rb (rb + 1) A' n (srt xs)
set_option maxHeartbeats 800000 in
/-- desc.Order, of descriptors that may be. -/
theorem Order_ok (w : World) (lo hi : Nat) (A : Option Addr) (n c : Nat) (xs : List (Int × Int)) (hX : Descs w lo hi A n xs) (hhi : hi ≤ w.heap.size) (h0 : 0 < w.heap.size) (hr : check xs = 0) :
  Calls Tryz.prog 204 #[.slice A n c] w (OrdPost w n xs) := by
 have HL := Lib.hid hX.len
 have hbig := hX.big
 have HR := Lib.hid hr
 have hn64 : n ≤ 64 := by rw [← HL.out]; exact (check_mem hr).1
 clear hr
 go_enter Tryz.func204, Tryz.ntmps204
 go_wp2_with fail
 refine (Check_any _ lo hi A n c xs hX hhi h0 0 HR.out).mono ?_
 rintro e w1 ⟨rfl, hb1⟩
 go_wp2_with fail
 refine (Clone_any _ lo hi A n c xs (hX.below hb1 hhi) (by have := hb1.size; omega) (by omega)).mono ?_
 rintro e w2 ⟨A2, c2, rfl, hc2, hb2, hown⟩
 have hsz1 := hb1.size
 have hsz2 := hb2.size
 have hb12 := hb1.trans (hb2.mono hsz1)
 by_cases hn : n = 0
 · subst hn
   have hx0 := hX.zero rfl
   subst hx0
   have hs := AnyF.slices_SortFunc_none (P := Tryz.prog) (ρ := Tryz.sortD_ren) Tryz.sortD A2 c2 (.func (.func 216) #[] #[]) w2
   change Calls Tryz.prog 215 _ _ _ at hs
   have HS := Lib.hid hs
   clear hs hown
   go_wp2_with fail
   refine HS.out.mono ?_
   rintro e w3 ⟨rfl, rfl⟩
   go_wp2
   go_ret2
   exact ⟨A2, c2, 0, rfl, hc2, hb12, fun h => absurd h (by omega), by omega, Descs.nil_ ..⟩
 · obtain ⟨g, rfl, hg1, hg2, hD0⟩ : ∃ g, A2 = some ⟨g, 0, none⟩ ∧ w1.heap.size ≤ g ∧ g < w2.heap.size ∧ Descs w2 w1.heap.size w2.heap.size A2 n xs := by
     have hD := Descs.of_own hown hX.wf hbig
     obtain ⟨b, off, e, h1, h2, _⟩ := hD.row (by omega)
     rcases hown.2 with ⟨_, h3⟩ | ⟨g, cap, cur, hv, hg, hh, hnc, hcm, hcs, ht⟩
     · omega
     · injection hv with ha
       subst ha
       injection e with e
       injection e with e1 e2
       subst e1
       exact ⟨g, rfl, h1, h2, hD⟩
   have hs := AnyQ.slices_SortFunc (P := Tryz.prog) (ρ := Tryz.sortD_ren) Tryz.sortD 2 agg_D size_D encD (fun _ => rfl) (fun x v hv => by simp [encD] at hv; rcases hv with rfl | rfl <;> rfl) cf swo 216 #[] g 0 c2 xs.toArray w2
    (enters_of Tryz.func216 (by kernel_rfl) rfl) (cmpLays g 0 _ w2) (holds_of hD0) hg2 (by have := HL.out; simp; omega)
   change Calls Tryz.prog 215 _ _ _ at hs
   have hsz : xs.toArray.size = n := by have := HL.out; simpa using this
   rw [hsz] at hs
   have HS := Lib.hid hs
   have HH := Lib.hid (holds_of hD0)
   have hwf := Lib.hid hX.wf
   have HSZ := Lib.hid hsz
   clear hs hown hD0 hsz hX
   go_wp2_with fail
   refine HS.out.mono ?_
   rintro e w3 ⟨rfl, d', m, os, hp, hsrt, hw3⟩
   have hb3 : Below w1.heap.size w2 w3 := by rw [hw3]; exact below_sort hg1 hg2
   have hd : d'.size = n := by have := hp.1; rw [HSZ.out] at this; exact this
   have hperm : d'.toList.Perm xs := by
    have := hp.2.2
    have e1 : d'.extract 0 n = d' := by rw [← hd]; simp
    have e2 : xs.toArray.extract 0 n = xs.toArray := by rw [← HSZ.out]; simp
    rw [e1, e2] at this
    exact this
   have hS : Srt d'.toList := by
    unfold Srt
    rw [List.pairwise_iff_getElem]
    intro i j hi hj hij
    have := hsrt i j (Nat.zero_le _) hij (by simpa [hd] using hj)
    rw [ltOf_cf] at this
    simpa [getElem!_pos d' j (by simpa using hj), getElem!_pos d' i (by simpa using hi)] using this
   have hsr := srt_of hperm hS
   have hH3 : HoldsK encD 2 w3 g 0 d' := by
    rw [hw3]
    exact holdsK_sortWorldK_c encD 2 w2 g 0 xs.toArray d' m os HH.out hg2 (by rw [HSZ.out]; exact hd)
   have hD3 := of_holds hH3 (fun x hx => hwf.out x (hperm.mem_iff.1 hx)) (by omega)
   rw [hd, hsr] at hD3
   have HD3 := Lib.hid hD3
   have hsz3 := hb3.size
   clear hw3 hd hperm hS hsr hH3 hD3 hp hsrt HS HH
   go_wp2
   go_ret2
   exact ⟨_, c2, g, rfl, hc2, hb12.trans (hb3.mono hsz1), fun _ => by omega, by omega, HD3.out⟩
/-- desc.Order, of descriptors that may not be. -/
theorem Order_bad (w : World) (lo hi : Nat) (A : Option Addr) (n c : Nat) (xs : List (Int × Int)) (hX : Descs w lo hi A n xs) (hhi : hi ≤ w.heap.size) (h0 : 0 < w.heap.size) (r : Int) (hr : check xs = r) (hne : (r == 0) = false) :
  Calls Tryz.prog 204 #[.slice A n c] w fun e w' => e = .returned (.tuple #[.slice none 0 0, .int .i64 r]) ∧ Below w.heap.size w w' := by
 have HR := Lib.hid hr
 have hne2 : (r != 0) = true := by simpa using hne
 clear hr
 go_enter Tryz.func204, Tryz.ntmps204
 go_wp2_with fail
 refine (Check_any _ lo hi A n c xs hX hhi h0 r HR.out).mono ?_
 rintro e w1 ⟨rfl, hb1⟩
 go_wp2
 go_ret2
 exact ⟨rfl, hb1⟩
end De
end Go.Proofs.YtmbppgjhdcmckaaGreatDoor
namespace Go.Proofs.YtmbppgjhdcmckaaGreatDoor
open Go.RowKit Go.Sort Go.Shelf
namespace De
theorem setCells_below {B b : Nat} (hB : B ≤ b) : ∀ (vs : List Value) (o : Nat) (w : World), Below B w (w.setCells b o vs)
 | [], _, w => Below.refl B w
 | v :: r, o, w => by
  rw [World.setCells]
  exact ((Below.refl B w).setCell (p := ⟨b, o, none⟩) hB v).trans (setCells_below hB r (o + 1) _)
theorem clearD (w : World) (ty : TypeId) (b o m c : Nat) (hm : 0 < m) (hc : ∀ j, j < m * 2 → (w.cell? ⟨b, o + j, none⟩).isSome = true) (hf : ∀ j, j < m * 2 → w.frozen? ⟨b, o + j, none⟩ = false) :
  (Builtin.clear_ #[57] ty #[.slice (some ⟨b, o, none⟩) m c]).run Tryz.prog w = .ok (.tuple #[]) (w.setCells b o (List.replicate (m * 2) (.int .i64 0))) := by
 have hv := Tryz.zeroValue195
 have hzc : (Builtin.zeroCells (Value.agg #[.int .i64 0, .int .i64 0]).cells m).toList = List.replicate (m * 2) (.int .i64 0) := by
  simp [Builtin.zeroCells, Value.cells]
  apply List.ext_getElem
  · simp
  · intro i h1 h2
    rcases Nat.mod_two_eq_zero_or_one i with h | h <;> simp [h]
 have hst := run_storeCells_cells (P := Tryz.prog) b o (List.replicate (m * 2) (.int .i64 0)) 0 w (by simpa using hc) (by simpa using hf) (by intro v hv'; rw [List.eq_of_mem_replicate hv']; rfl)
 simp only [Nat.add_zero] at hst
 obtain ⟨m, rfl⟩ : ∃ k, m = k + 1 := ⟨m - 1, by omega⟩
 simp [Builtin.clear_, run_underlying Tryz.underlying57, hv, hzc, hst]
theorem Descs.set_ {w : World} {rb n : Nat} {off : Nat} {ys : List (Int × Int)} (h : Descs w rb (rb + 1) (some ⟨rb, off, none⟩) n ys) {i : Nat} (hi : i < n) (x : Int × Int) (hx : Rng x) :
  Descs ((w.setCell ⟨rb, off + i * 2, none⟩ (.int .i64 x.1)).setCell ⟨rb, off + i * 2 + 1, none⟩ (.int .i64 x.2)) rb (rb + 1) (some ⟨rb, off, none⟩) n (ys.set i x) := by
 have hl := h.len
 refine ⟨by simp [hl], fun y hy => ?_, h.big, fun h0 => ⟨rb, off, rfl, Nat.le_refl _, by omega, fun j hj => ?_⟩⟩
 · rcases List.mem_or_eq_of_mem_set hy with h1 | h1
   · exact h.wf y h1
   · rw [h1]; exact hx
 · obtain ⟨b', off', e, _, _, hc⟩ := h.row h0
   injection e with e
   injection e with e1 e2
   subst e1
   subst e2
   obtain ⟨⟨a1, a2⟩, a3, a4⟩ := hc j hj
   obtain ⟨⟨b1, b2⟩, b3, b4⟩ := hc i hi
   simp only [World.frozen?_setCell]
   rw [List.getElem?_set]
   by_cases e : i = j
   · subst e
     rw [if_pos rfl, if_pos (by omega)]
     refine ⟨⟨?_, a2⟩, ?_, a4⟩
     · rw [World.cell?_setCell_other _ _ _ _ (fun e => by injection e with _ e2; omega), World.cell?_setCell_same _ _ _ b1]
       rfl
     · have b3' : (w.setCell ⟨rb, off + i * 2, none⟩ (.int .i64 x.1)).cell? ⟨rb, off + i * 2 + 1, none⟩ = some (.int .i64 (ys[i]?.getD (0, 0)).2) := by
         rw [World.cell?_setCell_other _ _ _ _ (fun e => by injection e with _ e2; omega)]
         exact b3
       rw [World.cell?_setCell_same _ _ _ b3']
       rfl
   · rw [if_neg e]
     refine ⟨⟨?_, a2⟩, ?_, a4⟩
     · rw [World.cell?_setCell_other _ _ _ _ (fun e => by injection e with _ e2; omega), World.cell?_setCell_other _ _ _ _ (fun e => by injection e with _ e2; omega)]
       exact a1
     · rw [World.cell?_setCell_other _ _ _ _ (fun e => by injection e with _ e2; omega), World.cell?_setCell_other _ _ _ _ (fun e => by injection e with _ e2; omega)]
       exact a3
def DelPost {σ : Type} (base rb : Nat) (p : σ → Int × Int → Bool) (st : σ → Int × Int → σ) (w : World) (s0 : σ) (A : Option Addr) (c : Nat) (xs : List (Int × Int)) (e : Ending) (w' : World) : Prop :=
 ∃ m, e = .returned (.slice A m c) ∧ m ≤ xs.length ∧ Below base w w' ∧ Descs w' rb (rb + 1) A m (delF p st s0 xs)
set_option maxHeartbeats 1600000 in
/-- slices.DeleteFunc, the first one that goes out at place i. -/
theorem DeleteFunc_some {σ : Type} {g : Nat} {cb : Array Value} {base rb : Nat} {row : Option Nat} {Inv : World → σ → Prop} {Ok : Int × Int → Prop} {p : σ → Int × Int → Bool} {st : σ → Int × Int → σ} (hP : PredS g cb base rb row Inv Ok p st)
  (w : World) (s0 : σ) (hinv : Inv w s0) (hbase : base ≤ w.heap.size) (hrb : rb < w.heap.size) (hbr : base ≤ rb) (off n c : Nat) (xs : List (Int × Int)) (hX : Descs w rb (rb + 1) (some ⟨rb, off, none⟩) n xs) (hok : ∀ x ∈ xs, Ok x) (hnc : n ≤ c)
  (i : Nat) (s1 : σ) (hr : idxG p st s0 xs 0 = ((i : Int), s1)) (hi : i < n) (hs1 : s1 = stF st s0 (xs.take (i + 1))) (hd1 : delF p st s0 (xs.take (i + 1)) = xs.take i) :
  Calls Tryz.prog 195 #[.slice (some ⟨rb, off, none⟩) n c, .func (.func g) #[] cb] w (DelPost base rb p st w s0 (some ⟨rb, off, none⟩) c xs) := by
 have HR := Lib.hid hr
 have HL := Lib.hid hX.len
 have HOK := Lib.hid hok
 have HS1 := Lib.hid hs1
 have HD1 := Lib.hid hd1
 have eg := hP.enters
 have hbig := hX.big
 clear hr hok hs1 hd1
 have hm1 : ((i : Int) == -1) = false := by rw [beq_eq_false_iff_ne]; omega
 go_enter Tryz.func195, Tryz.ntmps195
 go_wp2_with fail
 refine (IndexFunc_any hP _ s0 hinv hbase (by assumption) _ n c xs hX HOK.out i s1 HR.out).mono ?_
 rintro e w1 ⟨rfl, hi1, hb1, hD1⟩
 have HI1 := Lib.hid hi1
 clear hi1 hX hinv
 go_wp2
 go_loopw [5, 6, 7] (fun iv jv _ wr => ∃ i j : Nat, ∃ ys : List (Int × Int), ∃ s : σ, iv = .int .i64 i ∧ jv = .int .i64 j ∧ i < j ∧ j ≤ n ∧ Hid (ys.take i = delF p st s0 (xs.take j)) ∧ Hid (ys.drop j = xs.drop j) ∧ Hid (s = stF st s0 (xs.take j)) ∧ Descs wr rb (rb + 1) (some ⟨rb, off, none⟩) n ys ∧ Hid (Inv wr s) ∧ Below base w wr)
  (fun _ jv _ _ => n - (intOf jv).toNat)
 case atStart => exact ⟨i, i + 1, xs, s1, rfl, by go_num, by omega, by omega, HD1.out.symm, rfl, HS1.out, hD1, HI1, hb1⟩
 case round =>
  clear hD1 HI1 hb1 HD1 HS1 hi hm1
  obtain ⟨i, j, ys, s, rfl, rfl, hij, hjn, htk, hdr, hst, hD, hin, hnx⟩ := hrel
  have hsz := hnx.size
  obtain ⟨b', off', e, _, _, hc⟩ := hD.row (by omega)
  injection e with e
  injection e with e1 e2
  subst e1
  subst e2
  by_cases hlt : j < n
  · obtain ⟨⟨g1, _⟩, g3, _⟩ := hc j hlt
    obtain ⟨⟨f1, f2⟩, f3, f4⟩ := hc i (by omega)
    have hyx : ys[j]?.getD (0, 0) = xs[j]?.getD (0, 0) := by
     have := congrArg (fun l => l[0]?.getD (0, 0)) hdr.out
     simpa using this
    rw [hyx] at g1 g3
    have hm : xs[j]?.getD (0, 0) ∈ xs := by rw [List.getElem?_eq_getElem (by rw [HL.out]; exact hlt)]; exact List.getElem_mem _
    have hrng : Rng (xs[j]?.getD (0, 0)) := by rw [← hyx]; exact hD.at_ j
    have hxj : xs.take (j + 1) = xs.take j ++ [xs[j]?.getD (0, 0)] := by
     rw [List.take_succ_eq_append_getElem (by rw [HL.out]; exact hlt), List.getElem?_eq_getElem (by rw [HL.out]; exact hlt)]
     rfl
    have hdf := delF_snoc p st (xs.take j) s0 (xs[j]?.getD (0, 0))
    have hsf := stF_snoc st (xs.take j) s0 (xs[j]?.getD (0, 0))
    rw [← hxj, ← hst.out] at hdf hsf
    have hdr2 : ys.drop (j + 1) = xs.drop (j + 1) := by
     have := congrArg List.tail hdr.out
     simpa using this
    have hok := HOK.out _ hm
    generalize xs[j]?.getD (0, 0) = x at g1 g3 hrng hdf hsf hok
    obtain ⟨x1, x2⟩ := x
    have hbox := hP.alloc wr s (.cells #[.int .i64 x1, .int .i64 x2] 195) hin.out
    have hcall := hP.call (wr.alloc (.cells #[.int .i64 x1, .int .i64 x2] 195)) s (x1, x2) (by simp; omega) (by simp; omega) hbox hok hrng
    have HC := Lib.hid hcall
    have HDF := Lib.hid hdf
    have HSF := Lib.hid hsf
    have HDR2 := Lib.hid hdr2
    have hi0 : (0 : Int) ≤ (i : Int) := by omega
    have hin2 : (i : Int) < (n : Int) := by omega
    clear hc hyx hm hxj hdf hsf hcall hdr2 hbox hok
    cases hq : p s (x1, x2) with
    | true =>
     have hcall := HC.out
     have hdf := HDF.out
     rw [hq] at hcall hdf
     rw [if_pos rfl, List.append_nil] at hdf
     have HC2 := Lib.hid hcall
     have HDF2 := Lib.hid hdf
     clear hcall hdf hq HC HDF f1 f2 f3 f4
     go_wp2_with fail
     refine HC2.out.mono ?_
     rintro e w2 ⟨rfl, hi2, hg⟩
     have hb2 := ((Below.refl base wr).alloc (by omega) (.cells #[.int .i64 x1, .int .i64 x2] 195)).trans (hP.below hg (by simp; omega))
     have hk2 := hP.kept hg (by simp; omega)
     have hD2 := (hD.keep (w' := wr.alloc (.cells #[.int .i64 x1, .int .i64 x2] 195)) fun q h1 h2 => have h3 : q.block < wr.heap.size := by omega
      ⟨World.cell?_alloc_lt _ _ _ h3, World.frozen?_alloc_past _ _ _ h3⟩).of_keep hk2
     have HI2 := Lib.hid hi2
     clear hi2 hg hk2
     go_wp2
     go_roundw
     case rel => exact ⟨i, j + 1, ys, st s (x1, x2), rfl, by go_num, by omega, by omega, htk.out.trans HDF2.out.symm, HDR2, HSF.out.symm, hD2, HI2, hnx.trans hb2⟩
     case measure => simp [intOf]; omega
    | false =>
     have hcall := HC.out
     have hdf := HDF.out
     rw [hq] at hcall hdf
     rw [if_neg (by simp)] at hdf
     have HC2 := Lib.hid hcall
     have HDF2 := Lib.hid hdf
     clear hcall hdf hq HC HDF
     go_wp2_with fail
     refine HC2.out.mono ?_
     rintro e w2 ⟨rfl, hi2, hg⟩
     have hb2 := ((Below.refl base wr).alloc (by omega) (.cells #[.int .i64 x1, .int .i64 x2] 195)).trans (hP.below hg (by simp; omega))
     have hk2 := hP.kept hg (by simp; omega)
     have hD2 := (hD.keep (w' := wr.alloc (.cells #[.int .i64 x1, .int .i64 x2] 195)) fun q h1 h2 => have h3 : q.block < wr.heap.size := by omega
      ⟨World.cell?_alloc_lt _ _ _ h3, World.frozen?_alloc_past _ _ _ h3⟩).of_keep hk2
     have HI2 := Lib.hid hi2
     have hvb : w2.heap[wr.heap.size]? = some (.cells #[.int .i64 x1, .int .i64 x2] 195 (0, 0)) := by
      rw [hg.block wr.heap.size (by simp) (fun e => by have := hP.lt wr s _ e.symm hin.out; omega)]
      exact heap_alloc_new _ _
     have v1 : w2.cell? ⟨wr.heap.size, 0, none⟩ = some (.int .i64 x1) := by rw [cell_of_row w2 _ 0 _ _ _ hvb]; rfl
     have v2 : w2.cell? ⟨wr.heap.size, 1, none⟩ = some (.int .i64 x2) := by rw [cell_of_row w2 _ 1 _ _ _ hvb]; rfl
     obtain ⟨b', off2, e, _, _, hc2⟩ := hD2.row (by omega)
     injection e with e
     injection e with e1 e2
     subst e1
     subst e2
     obtain ⟨⟨f1, f2⟩, f3, f4⟩ := hc2 i (by omega)
     have hD3 := hD2.set_ (i := i) (by omega) (x1, x2) hrng
     have hI3 := hP.set_ _ (st s (x1, x2)) ⟨rb, off + i * 2 + 1, none⟩ (.int .i64 x2) rfl (hP.set_ w2 (st s (x1, x2)) ⟨rb, off + i * 2, none⟩ (.int .i64 x1) rfl HI2.out)
     have HI3 := Lib.hid hI3
     clear hi2 hg hk2 hvb hc2 hI3 HI2
     go_wp2
     go_roundw
     case rel =>
      refine ⟨i + 1, j + 1, ys.set i (x1, x2), st s (x1, x2), by go_num, by go_num, by omega, by omega, ?_, ?_, HSF.out.symm, hD3, HI3, (hnx.trans hb2).trans (((Below.refl _ _).setCell (p := ⟨rb, off + i * 2, none⟩) (by exact hbr) _).setCell (p := ⟨rb, off + i * 2 + 1, none⟩) (by exact hbr) _)⟩
      · rw [Hid, HDF2.out, ← htk.out, List.take_succ_eq_append_getElem (by simp; have := hD2.len; omega), List.take_set]
        have hi1 : (ys.set i (x1, x2))[i]'(by simp; have := hD2.len; omega) = (x1, x2) := List.getElem_set_self ..
        rw [hi1]
        congr 1
        exact List.set_eq_of_length_le (by simp; omega)
      · rw [Hid, List.drop_set, if_pos (by omega)]
        exact HDR2.out
     case measure => simp [intOf]; omega
  · obtain rfl : j = n := by omega
    have hcl : ∀ ty, (Builtin.clear_ #[57] ty #[.slice (some ⟨rb, off + i * 2, none⟩) (j - i) (c - i)]).run Tryz.prog wr = .ok (.tuple #[]) (wr.setCells rb (off + i * 2) (List.replicate ((j - i) * 2) (.int .i64 0))) := fun ty =>
     clearD wr ty rb (off + i * 2) (j - i) (c - i) (by omega)
      (fun t ht => by
       obtain ⟨⟨a1, _⟩, a3, _⟩ := hc (i + t / 2) (by omega)
       rcases Nat.mod_two_eq_zero_or_one t with h | h
       · rw [show off + i * 2 + t = off + (i + t / 2) * 2 by omega, a1]; rfl
       · rw [show off + i * 2 + t = off + (i + t / 2) * 2 + 1 by omega, a3]; rfl)
      (fun t ht => by
       obtain ⟨⟨_, a2⟩, _, a4⟩ := hc (i + t / 2) (by omega)
       rcases Nat.mod_two_eq_zero_or_one t with h | h
       · rw [show off + i * 2 + t = off + (i + t / 2) * 2 by omega]; exact a2
       · rw [show off + i * 2 + t = off + (i + t / 2) * 2 + 1 by omega]; exact a4)
    have hfin : Descs (wr.setCells rb (off + i * 2) (List.replicate ((j - i) * 2) (.int .i64 0))) rb (rb + 1) (some ⟨rb, off, none⟩) i (ys.take i) := by
     refine ⟨by have := hD.len; simp; omega, fun y hy => hD.wf y (List.mem_of_mem_take hy), by omega, fun h0 => ⟨rb, off, rfl, Nat.le_refl _, by omega, fun t ht => ?_⟩⟩
     obtain ⟨⟨a1, a2⟩, a3, a4⟩ := hc t (by omega)
     rw [List.getElem?_take, if_pos ht]
     simp only [World.frozen?_setCells]
     refine ⟨⟨?_, a2⟩, ?_, a4⟩
     · rw [World.cell?_setCells_out _ _ _ _ _ (fun _ _ => .inl (by show off + t * 2 < off + i * 2; omega))]
       exact a1
     · rw [World.cell?_setCells_out _ _ _ _ _ (fun _ _ => .inl (by show off + t * 2 + 1 < off + i * 2; omega))]
       exact a3
    have htk2 := htk.out
    rw [List.take_of_length_le (l := xs) (by rw [HL.out]; exact Nat.le_refl _)] at htk2
    have hlen : i ≤ xs.length := by rw [HL.out]; omega
    rw [htk2] at hfin
    have HF := Lib.hid hfin
    have hbf := hnx.trans (setCells_below hbr (List.replicate ((j - i) * 2) (.int .i64 0)) (off + i * 2) wr)
    have hci : ((c : Int) == (i : Int)) = false := by rw [beq_eq_false_iff_ne]; omega
    have hci2 : ¬ c = i := by omega
    clear hc htk hdr hst htk2 hfin
    go_wp2
    go_ret
    exact ⟨i, rfl, hlen, hbf, HF.out⟩
/-- slices.DeleteFunc. -/
theorem DeleteFunc_any {σ : Type} {g : Nat} {cb : Array Value} {base rb : Nat} {row : Option Nat} {Inv : World → σ → Prop} {Ok : Int × Int → Prop} {p : σ → Int × Int → Bool} {st : σ → Int × Int → σ} (hP : PredS g cb base rb row Inv Ok p st)
  (w : World) (s0 : σ) (hinv : Inv w s0) (hbase : base ≤ w.heap.size) (hrb : rb < w.heap.size) (A : Option Addr) (n c : Nat) (hbr : 0 < n → base ≤ rb) (xs : List (Int × Int)) (hX : Descs w rb (rb + 1) A n xs) (hok : ∀ x ∈ xs, Ok x) (hnc : n ≤ c) :
  Calls Tryz.prog 195 #[.slice A n c, .func (.func g) #[] cb] w (DelPost base rb p st w s0 A c xs) := by
 obtain ⟨r, hr⟩ : ∃ r, idxG p st s0 xs 0 = r := ⟨_, rfl⟩
 obtain ⟨r, s1⟩ := r
 rcases idxG_spec p st xs s0 0 r s1 hr with ⟨rfl, _, h3⟩ | ⟨i, hi, rfl, h2, h3, _⟩
 · have HR := Lib.hid hr
   have H3 := Lib.hid h3
   have HL := Lib.hid hX.len
   have HOK := Lib.hid hok
   clear hr h3 hok
   go_enter Tryz.func195, Tryz.ntmps195
   go_wp2_with fail
   refine (IndexFunc_any hP _ s0 hinv hbase (by assumption) _ n c xs hX HOK.out (-1) s1 HR.out).mono ?_
   rintro e w1 ⟨rfl, hi1, hb1, hD1⟩
   have HI1 := Lib.hid hi1
   clear hi1 hX hinv
   go_wp2
   go_ret
   exact ⟨n, rfl, by rw [HL.out]; exact Nat.le_refl _, hb1, by rw [H3.out]; exact hD1⟩
 · have hin : i < n := by rw [hX.len] at hi; exact hi
   obtain ⟨b, off, rfl, h4, h5, _⟩ := hX.row (by omega)
   obtain rfl : rb = b := by omega
   exact DeleteFunc_some hP w s0 hinv hbase hrb (hbr (by omega)) off n c xs hX hok hnc i s1 (by rw [hr, Nat.zero_add]) hin h2 h3
end De
end Go.Proofs.YtmbppgjhdcmckaaGreatDoor
namespace Go.Proofs.YtmbppgjhdcmckaaGreatDoor
open Go.RowKit Go.Sort Go.Shelf
namespace De
theorem only_alloc {a w : World} {row : Option Nat} (h : a.grownBy w row) (o : Obj) : a.grownBy (w.alloc o) row :=
 ⟨h.os, h.tape, h.output, Nat.le_trans h.size (by simp), fun i hi hne => (Below.heap_alloc w o i (Nat.lt_of_lt_of_le hi h.size)).trans (h.block i hi hne)⟩
theorem only_setCell {a w : World} {g : Nat} (h : a.grownBy w (some g)) {p : Addr} (hp : p.block = g) (u : Value) : a.grownBy (w.setCell p u) (some g) :=
 ⟨h.os, h.tape, h.output, by simpa [World.setCell] using h.size, fun i hi hne => (Below.heap_setCell w p u i (by rintro rfl; exact hne (by rw [hp]))).trans (h.block i hi hne)⟩
def bools (s : List Int) : Array Value := #[.bool (decide ((0 : Int) ∈ s)), .bool (decide ((1 : Int) ∈ s)), .bool (decide ((2 : Int) ∈ s)), .bool (decide ((3 : Int) ∈ s)), .bool (decide ((4 : Int) ∈ s)), .bool (decide ((5 : Int) ∈ s)), .bool (decide ((6 : Int) ∈ s)), .bool (decide ((7 : Int) ∈ s))]
def seenP (s : List Int) (x : Int × Int) : Bool := decide (x.1 ∈ s)
def seenS (s : List Int) (x : Int × Int) : List Int := if x.1 ∈ s then s else x.1 :: s
theorem delF_seen : ∀ (l : List (Int × Int)) (s : List Int), delF seenP seenS s l = firsts s l
 | [], _ => rfl
 | x :: l, s => by
  simp only [delF, firsts, seenP, seenS]
  by_cases h : x.1 ∈ s
  · simp only [h, decide_true, if_true]
    exact delF_seen l s
  · simp only [h, decide_false, if_false]
    rw [delF_seen l]
    rfl
theorem bools_get (s : List Int) : ∀ i : Nat, (bools s)[i]? = if i < 8 then some (.bool (decide ((i : Int) ∈ s))) else none
 | 0 => rfl
 | 1 => rfl
 | 2 => rfl
 | 3 => rfl
 | 4 => rfl
 | 5 => rfl
 | 6 => rfl
 | 7 => rfl
 | i + 8 => by
  rw [if_neg (by omega)]
  rfl
theorem bools_set (s : List Int) (k : Nat) (hk : k < 8) (y : Int) : (bools s).setIfInBounds k (.bool true) = bools (seenS s ((k : Int), y)) := by
 apply Array.ext_getElem?
 intro i
 rw [Array.getElem?_setIfInBounds, bools_get, bools_get]
 have hsz : (bools s).size = 8 := by simp [bools]
 by_cases e : k = i
 · subst e
   rw [if_pos rfl, if_pos (by omega), if_pos hk]
   unfold seenS
   by_cases h : (k : Int) ∈ s <;> simp [h]
 · rw [if_neg e]
   have hne : ¬ (i : Int) = (k : Int) := by omega
   by_cases h8 : i < 8
   · rw [if_pos h8, if_pos h8]
     unfold seenS
     by_cases h : (k : Int) ∈ s <;> simp [h, hne]
   · rw [if_neg h8, if_neg h8]
set_option maxHeartbeats 400000 in
/-- desc.Best's closure. -/
theorem seen_any (W : World) (T : Nat) (t : TypeId) (s : List Int) (x y : Int) (hT : W.heap[T]? = some (.cells (bools s) t (0, 0))) (hx0 : 0 ≤ x) (hx8 : x < 8) :
  Calls Tryz.prog 205 #[.agg #[.int .i64 x, .int .i64 y], .pointer (some ⟨T, 0, none⟩)] W fun e w' => e = .returned (.bool (seenP s (x, y))) ∧ w'.heap[T]? = some (.cells (bools (seenS s (x, y))) t (0, 0)) ∧ W.grownBy w' (some T) := by
 obtain ⟨k, rfl⟩ : ∃ k : Nat, x = k := ⟨x.toNat, by omega⟩
 have hk : k < 8 := by omega
 have hlt : T < W.heap.size := by
  rcases Nat.lt_or_ge T W.heap.size with h | h
  · exact h
  · rw [Array.getElem?_eq_none h] at hT; cases hT
 have hc : W.cell? ⟨T, k, none⟩ = some (.bool (decide ((k : Int) ∈ s))) := by
  rw [cell_of_row W T k _ t (0, 0) hT]
  rw [bools_get, if_pos hk]
 have hf : W.frozen? ⟨T, k, none⟩ = false := frozen_of_row W T k _ t hT
 have HT := Lib.hid hT
 have HB := Lib.hid (bools_set s k hk y)
 clear hT
 obtain ⟨b, hb⟩ : ∃ b, decide ((k : Int) ∈ s) = b := ⟨_, rfl⟩
 have hp : seenP s ((k : Int), y) = b := hb
 rw [hb] at hc
 rw [hp]
 clear hb hp
 have hfin : ((W.setCell ⟨T, k, none⟩ (.bool true)).alloc (.cells #[.int .i64 k, .int .i64 y] 195)).heap[T]? = some (.cells (bools (seenS s ((k : Int), y))) t (0, 0)) := by
  rw [Below.heap_alloc _ _ T (by simpa [World.setCell] using hlt), heap_setCell_same W T k _ t _ HT.out, HB.out]
 have HF := Lib.hid hfin
 clear hfin
 go_enter Tryz.func205, Tryz.ntmps205
 go_wp2
 go_ret
 exact ⟨rfl, HF.out, only_alloc (only_setCell (World.grownBy.refl W _) rfl _) _⟩
theorem seen_pred (base rb T : Nat) (t : TypeId) (h1 : base ≤ T) (h2 : T ≠ rb) : PredS 205 #[.pointer (some ⟨T, 0, none⟩)] base rb (some T) (fun W s => W.heap[T]? = some (.cells (bools s) t (0, 0))) (fun x => 0 ≤ x.1 ∧ x.1 < 8) seenP seenS where
 enters := enters_of Tryz.func205 (by kernel_rfl) rfl
 row_ k h := by injection h with h; subst h; exact ⟨h1, h2⟩
 lt W s k h hi := by
  injection h with h
  subst h
  rcases Nat.lt_or_ge T W.heap.size with h | h
  · exact h
  · rw [Array.getElem?_eq_none h] at hi; cases hi
 call W s x _ _ hi hok _ := seen_any W T t s x.1 x.2 hi hok.1 hok.2
 alloc W s o hi := by
  have hlt : T < W.heap.size := by
   rcases Nat.lt_or_ge T W.heap.size with h | h
   · exact h
   · rw [Array.getElem?_eq_none h] at hi; cases hi
  exact (Below.heap_alloc W o T hlt).trans hi
 set_ W s q v hq hi := (Below.heap_setCell W q v T (by rw [hq]; exact h2)).trans hi
def BestPost (w : World) (xs : List (Int × Int)) (e : Ending) (w' : World) : Prop :=
 ∃ A' n' c' rb, e = .returned (.tuple #[.slice A' n' c', .int .i64 0]) ∧ n' ≤ c' ∧ Below w.heap.size w w' ∧ (0 < n' → w.heap.size ≤ rb) ∧ rb < w'.heap.size ∧ Descs w' rb (rb + 1) A' n' (best xs)
set_option maxHeartbeats 800000 in
/-- desc.Best, of descriptors that may be. -/
theorem Best_ok (w : World) (lo hi : Nat) (A : Option Addr) (n c : Nat) (xs : List (Int × Int)) (hX : Descs w lo hi A n xs) (hhi : hi ≤ w.heap.size) (h0 : 0 < w.heap.size) (hr : check xs = 0) :
  Calls Tryz.prog 194 #[.slice A n c] w (BestPost w xs) := by
 have HR := Lib.hid hr
 have hmay : ∀ x ∈ srt xs, 0 ≤ x.1 ∧ x.1 < 8 := fun x hx => by
  have := List.all_eq_true.1 (check_mem hr).2 x (srt_mem.1 hx)
  rw [may_iff] at this
  exact ⟨this.1, this.2.1⟩
 have HM := Lib.hid hmay
 clear hr hmay
 go_enter Tryz.func194, Tryz.ntmps194
 go_wp2_with fail
 refine (Order_ok _ lo hi A n c xs hX hhi h0 HR.out).mono ?_
 rintro e w1 ⟨A1, c1, rb, rfl, hc1, hb1, hrb1, hrb2, hD⟩
 have hsz1 := hb1.size
 go_wp2_with fail
 have hnew : (w1.alloc (.cells #[.bool false, .bool false, .bool false, .bool false, .bool false, .bool false, .bool false, .bool false] 234)).heap[w1.heap.size]? = some (.cells (bools []) 234 (0, 0)) := by
  rw [show bools [] = #[.bool false, .bool false, .bool false, .bool false, .bool false, .bool false, .bool false, .bool false] by simp [bools]]
  exact heap_alloc_new _ _
 have hDa : Descs (w1.alloc (.cells #[.bool false, .bool false, .bool false, .bool false, .bool false, .bool false, .bool false, .bool false] 234)) rb (rb + 1) A1 n (srt xs) := hD.alloc (by omega) _
 refine (DeleteFunc_any (seen_pred w.heap.size rb w1.heap.size 234 hsz1 (by omega)) _ [] hnew (by simp; omega) (by simp; omega) A1 n c1 hrb1 (srt xs) hDa HM.out hc1).mono ?_
 rintro e w2 ⟨m, rfl, hm, hb2, hD2⟩
 rw [delF_seen] at hD2
 have hsz2 := hb2.size
 have hmc : m ≤ c1 := by have := hD.len; omega
 have hm0 : 0 < m → 0 < n := by have := hD.len; omega
 clear hnew hDa
 go_wp2
 go_ret2
 exact ⟨A1, m, c1, rb, rfl, hmc, (hb1.alloc hsz1 _).trans hb2, fun h => hrb1 (hm0 h), by simp at hsz2; omega, hD2⟩
/-- desc.Best, of descriptors that may not be. -/
theorem Best_bad (w : World) (lo hi : Nat) (A : Option Addr) (n c : Nat) (xs : List (Int × Int)) (hX : Descs w lo hi A n xs) (hhi : hi ≤ w.heap.size) (h0 : 0 < w.heap.size) (r : Int) (hr : check xs = r) (hne : (r == 0) = false) :
  Calls Tryz.prog 194 #[.slice A n c] w fun e w' => e = .returned (.tuple #[.slice none 0 0, .int .i64 r]) ∧ Below w.heap.size w w' := by
 have hne2 : (r != 0) = true := by simpa using hne
 go_enter Tryz.func194, Tryz.ntmps194
 go_wp2_with fail
 refine (Order_bad _ lo hi A n c xs hX hhi h0 r hr hne).mono ?_
 rintro e w1 ⟨rfl, hb1⟩
 clear hr
 go_wp2
 go_ret2
 exact ⟨rfl, hb1⟩
/-- desc.Same. -/
theorem Same_any (w : World) (lo hi lo' hi' : Nat) (A A' : Option Addr) (n c n' c' : Nat) (xs ys : List (Int × Int)) (hX : Descs w lo hi A n xs) (hY : Descs w lo' hi' A' n' ys) (r : Bool) (hr : Sm xs ys = r) :
  Calls Tryz.prog 164 #[.slice A n c, .slice A' n' c'] w fun e w' => e = .returned (.bool r) ∧ ∃ m, w' = w.drewN m := by
 have HR := Lib.hid hr
 clear hr
 go_enter Tryz.func164, Tryz.ntmps164
 go_wp2_with fail
 refine (Equal_any _ lo hi lo' hi' A A' n c n' c' xs ys hX hY r HR.out).mono ?_
 rintro e w1 ⟨rfl, m, rfl⟩
 go_wp2
 go_ret
 exact ⟨rfl, m, rfl⟩
theorem Below.keepCell {B : Nat} {w w' : World} (h : Below B w w') {b o : Nat} {v : Value} (hb : b < B) (hc : w.cell? ⟨b, o, none⟩ = some v) : w'.cell? ⟨b, o, none⟩ = some v := (h.cell (p := ⟨b, o, none⟩) hb).trans hc
end De
end Go.Proofs.YtmbppgjhdcmckaaGreatDoor
namespace Go.Proofs.YtmbppgjhdcmckaaGreatDoor
open Go.RowKit Go.Sort Go.Shelf
namespace De
def four : List (Int × Int) := [(1, 5), (0, 5), (2, 9), (1, 7)]
/-- desc.Same, the world left open. -/
theorem Same_b (w : World) (lo hi lo' hi' : Nat) (A A' : Option Addr) (n c n' c' : Nat) (xs ys : List (Int × Int)) (hX : Descs w lo hi A n xs) (hY : Descs w lo' hi' A' n' ys) (r : Bool) (hr : Sm xs ys = r) :
  Calls Tryz.prog 164 #[.slice A n c, .slice A' n' c'] w fun e w' => e = .returned (.bool r) ∧ Below w.heap.size w w' :=
 (Same_any w lo hi lo' hi' A A' n c n' c' xs ys hX hY r hr).mono fun e w' ⟨he, m, hm⟩ => ⟨he, by rw [hm]; exact below_of_drewN _ _ _⟩
end De
end Go.Proofs.YtmbppgjhdcmckaaGreatDoor