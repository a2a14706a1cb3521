/- MeanNever in parts: a round (printed by a program of mine). -/
/- The law MeanNever: a walk (printed by a program of mine). -/
/- What every statement's row asks beside its walk: arguments that read as data hold what our predicates say; behind the call they read as before. -/
/- Dyads among the arguments. -/
/- Masses among the arguments. -/
/- Lists of masses among the arguments. -/
/- What a statement behind the door asks beside its walk: the table of bits.TrailingZeros32 lies in its variable; dyads among the arguments. -/
import Derived.Test.YtlbkepiflhchdaaDoorBv14
import Derived.ProofKit
import Derived.Test.YtlbkepiflhchdaaDoorBv01
import Derived.Lib.SmallJoins
import Derived.Deep.SlicePairs
import Derived.Test.YtlbkepiflhchdaaDoorBv02
import Derived.Test.YtlbkepiflhchdaaDoorBv06
import Derived.Test.YtlbkepiflhchdaaDoorBv09
import Derived.Test.YtlbkepiflhchdaaDoorRows
import Derived.LaidMore
import Derived.OpenShut
import Derived.Stop.Joined
namespace Go.Proofs.YtlbkepiflhchdaaDoor
open Go.RowKit
namespace Ma
open Dp Dy
set_option maxHeartbeats 51200000 in
set_option maxRecDepth 1000000 in
theorem nev_round (s0 s3 s4 s5 s7 s9 s10 s11 s12 s15 s17 s18 s19 s20 s21 s22 s23 s24 s25 s26 s27 s28 s29 s30 s31 s32 s33 s34 s35 s36 s37 s38 s39 s40 s41 s42 s43 s44 s45 s46 s47 s48 s49 s50 s51 s52 s53 s54 s55 s56 s57 s58 s59 s60 s61 s62 s63 s64 s65 s66 s67 s68 s69 s70 s71 s72 s73 s74 s75 s76 s77 s78 s79 s80 s81 s82 s83 s84 s85 s86 s87 s88 s89 s90 s91 s92 s93 s94 s95 s96 s97 s98 s99 s100 s101 s102 s103 s104 s105 s106 s107 s108 s109 s110 s111 s112 s113 s114 s115 s116 s117 s118 s119 s120 s121 s122 s123 s124 s125 s126 s127 s128 s129 s130 s131 s132 s133 s134 s135 s136 s137 s138 s139 s140 s141 s142 s143 s144 s145 s146 s147 s148 s149 s150 s151 s152 s153 s154 s155 s156 s157 s158 s159 s160 s161 s162 s163 s164 s165 s166 s167 s168 s169 s170 s171 s172 s173 s174 s175 s176 s177 s178 s179 s180 s181 s182 s183 s184 s185 s186 s187 s188 s189 s190 s191 s192 s193 s194 s195 s196 s197 s198 s199 s200 s201 s202 s203 s204 s205 s206 s207 s208 s209 s210 s211 s212 s213 s214 s215 s216 s217 s218 s219 s220 s221 s222 s223 s224 s225 s226 s227 s228 s229 s230 s231 s232 s233 s234 s235 s236 s237 s238 s239 s240 s241 s242 s243 s244 s245 s246 s247 s248 s249 s250 s251 s252 s253 s254 s255 s256 s257 s258 s259 s260 s261 : Value) (E : Exit → Act → World → Prop) (hpan : ∀ {x a a' w}, a.defers = a'.defers → E (.panic x) a w → E (.panic x) a' w) (w : World) (hT : Tab w) (A1 A2 Ao : Option Addr) (n1 d1 n2 d2 i co : Nat) (xs1 xs2 : List Int) (hx1 : Ints w 0 w.heap.size .i64 A1 n1 xs1) (hx2 : Ints w 0 w.heap.size .i64 A2 n2 xs2) (hn8 : ¬ 8 < i) (hn40 : ¬ 40 < n1)
    (B2 B3 B6 gW gC : Nat) (lb0 : w.heap.size ≤ B2) (lb1 : B2 ≤ B3) (o4 : B3 ≤ gW) (o2 : gW < gC) (o3 : gC + 1 < B6) (hOlt : ∀ k, (Value.slice Ao i co).ownBlock = some k → k < B2) (x : Mv) (os0 : List Mv)
    (j : Nat) (os : List Mv) (c a : Dn) (X Y : Dv) (wr : World) (hj1 : j ≤ n1) (hO : OwnM wr w.heap.size (.slice Ao i co) i os) (hb : Below w.heap.size w wr) (lw6 : B6 ≤ wr.heap.size) (hXR : MBox wr gW x ∧ MRows wr B2 B3 x) (hCA : DBox wr gC X ∧ DBox wr (gC + 1) Y) (hII : Ints wr 0 wr.heap.size .u32 X.A X.n X.xs ∧ Ints wr 0 wr.heap.size .u32 Y.A Y.n Y.xs)
    (hN : NevI i j os0 os c a X Y gC (gC + 1) (Value.slice Ao i co).ownBlock)
    (hexit : ∀ (t17 t18 t19 t20 t21 t22 t23 t24 t25 t26 t27 t28 t29 t30 t120 t121 t122 t123 t124 t125 t126 t127 t128 t129 t130 t131 t132 t133 t134 t135 t136 t137 t138 t139 t140 t141 t142 t143 t144 t145 t146 t147 t148 t149 t150 t151 t152 t153 t154 t155 t156 t157 t158 t159 t160 t161 t162 t163 t164 t165 t166 t167 t168 t169 t170 t171 t172 t173 t174 t175 t176 t177 t178 t179 t180 t181 t182 t183 t184 t185 t186 t187 t188 t189 t190 t191 t192 t193 t194 t195 t196 t197 t198 t199 t200 t201 t202 t203 t204 t205 t206 t207 t208 t209 t210 t211 t212 t213 t214 t215 t216 t217 t218 t219 t220 t221 t222 t223 t224 t225 t226 t227 t228 t229 t230 t231 t232 t233 t234 : Value), E (.exit 2) ⟨#[s0, (.slice A1 n1 d1), (.slice A2 n2 d2), s3, s4, s5, (.bool false), s7, (.slice Ao i co), s9, s10, s11, s12, (.pointer (some ⟨gC, 0, none⟩)), (.pointer (some ⟨gC + 1, 0, none⟩)), s15, (.int .i64 (j : Int)), t17, t18, t19, t20, t21, t22, t23, t24, t25, t26, t27, t28, t29, t30, s31, s32, s33, s34, s35, s36, s37, s38, s39, s40, s41, s42, s43, s44, s45, s46, s47, s48, s49, s50, s51, s52, s53, s54, s55, s56, s57, s58, s59, s60, s61, s62, s63, s64, s65, s66, s67, s68, s69, s70, s71, s72, s73, s74, s75, s76, s77, s78, s79, s80, s81, s82, s83, s84, s85, s86, s87, s88, s89, s90, s91, s92, s93, s94, s95, s96, s97, s98, s99, s100, s101, s102, s103, s104, s105, s106, s107, s108, s109, s110, s111, s112, s113, s114, s115, s116, s117, s118, s119, t120, t121, t122, t123, t124, t125, t126, t127, t128, t129, t130, t131, t132, t133, t134, t135, t136, t137, t138, t139, t140, t141, t142, t143, t144, t145, t146, t147, t148, t149, t150, t151, t152, t153, t154, t155, t156, t157, t158, t159, t160, t161, t162, t163, t164, t165, t166, t167, t168, t169, t170, t171, t172, t173, t174, t175, t176, t177, t178, t179, t180, t181, t182, t183, t184, t185, t186, t187, t188, t189, t190, t191, t192, t193, t194, t195, t196, t197, t198, t199, t200, t201, t202, t203, t204, t205, t206, t207, t208, t209, t210, t211, t212, t213, t214, t215, t216, t217, t218, t219, t220, t221, t222, t223, t224, t225, t226, t227, t228, t229, t230, t231, t232, t233, t234, s235, s236, s237, s238, s239, s240, s241, s242, s243, s244, s245, s246, s247, s248, s249, s250, s251, s252, s253, s254, s255, s256, s257, s258, s259, s260, s261], []⟩ wr)
    (hnext : ∀ (os' : List Mv) (c' a' : Dn) (X' Y' : Dv) (t17 t18 t19 t20 t21 t22 t23 t24 t25 t26 t27 t28 t29 t30 t120 t121 t122 t123 t124 t125 t126 t127 t128 t129 t130 t131 t132 t133 t134 t135 t136 t137 t138 t139 t140 t141 t142 t143 t144 t145 t146 t147 t148 t149 t150 t151 t152 t153 t154 t155 t156 t157 t158 t159 t160 t161 t162 t163 t164 t165 t166 t167 t168 t169 t170 t171 t172 t173 t174 t175 t176 t177 t178 t179 t180 t181 t182 t183 t184 t185 t186 t187 t188 t189 t190 t191 t192 t193 t194 t195 t196 t197 t198 t199 t200 t201 t202 t203 t204 t205 t206 t207 t208 t209 t210 t211 t212 t213 t214 t215 t216 t217 t218 t219 t220 t221 t222 t223 t224 t225 t226 t227 t228 t229 t230 t231 t232 t233 t234 : Value) (w' : World), j + 1 ≤ n1 → OwnM w' w.heap.size (.slice Ao i co) i os' → Below w.heap.size w w' → B6 ≤ w'.heap.size → (MBox w' gW x ∧ MRows w' B2 B3 x) → (DBox w' gC X' ∧ DBox w' (gC + 1) Y') → (Ints w' 0 w'.heap.size .u32 X'.A X'.n X'.xs ∧ Ints w' 0 w'.heap.size .u32 Y'.A Y'.n Y'.xs) → NevI i (j + 1) os0 os' c' a' X' Y' gC (gC + 1) (Value.slice Ao i co).ownBlock → E .normal ⟨#[s0, (.slice A1 n1 d1), (.slice A2 n2 d2), s3, s4, s5, (.bool false), s7, (.slice Ao i co), s9, s10, s11, s12, (.pointer (some ⟨gC, 0, none⟩)), (.pointer (some ⟨gC + 1, 0, none⟩)), s15, (.int .i64 (j + 1 : Nat)), t17, t18, t19, t20, t21, t22, t23, t24, t25, t26, t27, t28, t29, t30, s31, s32, s33, s34, s35, s36, s37, s38, s39, s40, s41, s42, s43, s44, s45, s46, s47, s48, s49, s50, s51, s52, s53, s54, s55, s56, s57, s58, s59, s60, s61, s62, s63, s64, s65, s66, s67, s68, s69, s70, s71, s72, s73, s74, s75, s76, s77, s78, s79, s80, s81, s82, s83, s84, s85, s86, s87, s88, s89, s90, s91, s92, s93, s94, s95, s96, s97, s98, s99, s100, s101, s102, s103, s104, s105, s106, s107, s108, s109, s110, s111, s112, s113, s114, s115, s116, s117, s118, s119, t120, t121, t122, t123, t124, t125, t126, t127, t128, t129, t130, t131, t132, t133, t134, t135, t136, t137, t138, t139, t140, t141, t142, t143, t144, t145, t146, t147, t148, t149, t150, t151, t152, t153, t154, t155, t156, t157, t158, t159, t160, t161, t162, t163, t164, t165, t166, t167, t168, t169, t170, t171, t172, t173, t174, t175, t176, t177, t178, t179, t180, t181, t182, t183, t184, t185, t186, t187, t188, t189, t190, t191, t192, t193, t194, t195, t196, t197, t198, t199, t200, t201, t202, t203, t204, t205, t206, t207, t208, t209, t210, t211, t212, t213, t214, t215, t216, t217, t218, t219, t220, t221, t222, t223, t224, t225, t226, t227, t228, t229, t230, t231, t232, t233, t234, s235, s236, s237, s238, s239, s240, s241, s242, s243, s244, s245, s246, s247, s248, s249, s250, s251, s252, s253, s254, s255, s256, s257, s258, s259, s260, s261], []⟩ w') :
    Code.wp Tryd.prog nvLoop E ⟨#[s0, (.slice A1 n1 d1), (.slice A2 n2 d2), s3, s4, s5, (.bool false), s7, (.slice Ao i co), s9, s10, s11, s12, (.pointer (some ⟨gC, 0, none⟩)), (.pointer (some ⟨gC + 1, 0, none⟩)), s15, (.int .i64 (j : Int)), s17, s18, s19, s20, s21, s22, s23, s24, s25, s26, s27, s28, s29, s30, s31, s32, s33, s34, s35, s36, s37, s38, s39, s40, s41, s42, s43, s44, s45, s46, s47, s48, s49, s50, s51, s52, s53, s54, s55, s56, s57, s58, s59, s60, s61, s62, s63, s64, s65, s66, s67, s68, s69, s70, s71, s72, s73, s74, s75, s76, s77, s78, s79, s80, s81, s82, s83, s84, s85, s86, s87, s88, s89, s90, s91, s92, s93, s94, s95, s96, s97, s98, s99, s100, s101, s102, s103, s104, s105, s106, s107, s108, s109, s110, s111, s112, s113, s114, s115, s116, s117, s118, s119, s120, s121, s122, s123, s124, s125, s126, s127, s128, s129, s130, s131, s132, s133, s134, s135, s136, s137, s138, s139, s140, s141, s142, s143, s144, s145, s146, s147, s148, s149, s150, s151, s152, s153, s154, s155, s156, s157, s158, s159, s160, s161, s162, s163, s164, s165, s166, s167, s168, s169, s170, s171, s172, s173, s174, s175, s176, s177, s178, s179, s180, s181, s182, s183, s184, s185, s186, s187, s188, s189, s190, s191, s192, s193, s194, s195, s196, s197, s198, s199, s200, s201, s202, s203, s204, s205, s206, s207, s208, s209, s210, s211, s212, s213, s214, s215, s216, s217, s218, s219, s220, s221, s222, s223, s224, s225, s226, s227, s228, s229, s230, s231, s232, s233, s234, s235, s236, s237, s238, s239, s240, s241, s242, s243, s244, s245, s246, s247, s248, s249, s250, s251, s252, s253, s254, s255, s256, s257, s258, s259, s260, s261], []⟩ wr := by
  conv => arg 2; whnf
  skip
  obtain ⟨hX, Rx⟩ := hXR
  obtain ⟨hC, hA⟩ := hCA
  obtain ⟨IX, IY⟩ := hII
  have hI := Lib.hid hN
  clear hN
  have HLo : Hid (os.length = i) := Lib.hid hO.len
  have lw2 := hb.size
  have lc := lt_of_heap hA
  have hwrj : IntKind.i64.wrap ((j : Int) + 1) = ((j + 1 : Nat) : Int) := by rw [IntKind.wrap_i64]; omega
  by_cases hj2 : j < n1
  rotate_left
  · go_wp2
    exact hexit _ _ _ _ _ _ _ _ _ _ _ _ _ _ _ _ _ _ _ _ _ _ _ _ _ _ _ _ _ _ _ _ _ _ _ _ _ _ _ _ _ _ _ _ _ _ _ _ _ _ _ _ _ _ _ _ _ _ _ _ _ _ _ _ _ _ _ _ _ _ _ _ _ _ _ _ _ _ _ _ _ _ _ _ _ _ _ _ _ _ _ _ _ _ _ _ _ _ _ _ _ _ _ _ _ _ _ _ _ _ _ _ _ _ _ _ _ _ _ _ _ _ _ _ _ _ _ _ _
  by_cases hj3 : j < n2
  rotate_left
  · go_wp2
    exact hexit _ _ _ _ _ _ _ _ _ _ _ _ _ _ _ _ _ _ _ _ _ _ _ _ _ _ _ _ _ _ _ _ _ _ _ _ _ _ _ _ _ _ _ _ _ _ _ _ _ _ _ _ _ _ _ _ _ _ _ _ _ _ _ _ _ _ _ _ _ _ _ _ _ _ _ _ _ _ _ _ _ _ _ _ _ _ _ _ _ _ _ _ _ _ _ _ _ _ _ _ _ _ _ _ _ _ _ _ _ _ _ _ _ _ _ _ _ _ _ _ _ _ _ _ _ _ _ _ _
  obtain ⟨b1, off1, hA1, h11, h12, hc1⟩ := (hx1.below hb (Nat.le_refl _)).row (by omega)
  have r1 := (hc1 j hj2).1
  obtain ⟨p, hp⟩ : ∃ p, xs1[j]?.getD 0 = p := ⟨_, rfl⟩
  rw [hp] at r1
  obtain ⟨b2, off2, hA2, h21, h22, hc2⟩ := (hx2.below hb (Nat.le_refl _)).row (by omega)
  have r2 := (hc2 j hj3).1
  obtain ⟨q, hq⟩ : ∃ q, xs2[j]?.getD 0 = q := ⟨_, rfl⟩
  rw [hq] at r2
  clear hc1 hc2 hp hq
  subst hA1 hA2
  go_wp2_with fail
  have kp_ : Keeps wr wr.drew := fun _ _ => rfl
  refine region_E (Keeps wr) [] (m := 10) (L := #[false, false, false, false, false, false, false, false, false, false]) (by kernel_rfl) (by rfl) (by rfl) ?_
  have hB : Below wr.heap.size wr wr.drew := (Below.refl _ _).drew
  have lb1_ : b1 < wr.heap.size := by omega
  have lb2_ : b2 < wr.heap.size := by omega
  generalize wr.drew = v0 at *
  refine pureE (i := 0) (L := #[true, false, false, false, false, false, false, false, false, false]) (v := ?_) rfl (by rfl) (by kernel_rfl) (by kernel_rfl) (by kernel_rfl) (fun _ _ _ h => hpan (by rfl) h) (by rfl) ?hy1 ?rest1
  case hy1 => intro w; go_simp; (try with_reducible rfl)
  try simp only [Act.put, List.setIfInBounds_toArray, List.set_cons_zero, List.set_cons_succ]
  refine pureE (i := 1) (L := #[true, true, false, false, false, false, false, false, false, false]) (v := ?_) rfl (by rfl) (by kernel_rfl) (by kernel_rfl) (by kernel_rfl) (fun _ _ _ h => hpan (by rfl) h) (by rfl) ?hy2 ?rest2
  case hy2 => intro w; go_simp; (try with_reducible rfl)
  try simp only [Act.put, List.setIfInBounds_toArray, List.set_cons_zero, List.set_cons_succ]
  refine pureE (i := 2) (L := #[true, true, true, false, false, false, false, false, false, false]) (v := ?_) rfl (by rfl) (by kernel_rfl) (by kernel_rfl) (by kernel_rfl) (fun _ _ _ h => hpan (by rfl) h) (by rfl) ?hy3 ?rest3
  case hy3 => intro w; go_simp; (try with_reducible rfl)
  try simp only [Act.put, List.setIfInBounds_toArray, List.set_cons_zero, List.set_cons_succ]
  refine readE (i := 3) (L := #[true, true, true, true, false, false, false, false, false, false]) (v := .int .i64 p) rfl (by rfl) (by kernel_rfl) (by kernel_rfl) (by kernel_rfl) (fun _ _ _ h => hpan (by rfl) h) (by assumption) (by rfl) ?yc ?zc
  case yc =>
    intro w' h1
    have e0 : w'.cell? ⟨b1, off1 + j, none⟩ = some (.int .i64 p) := (World.cell?_of_block (h1 _ lb1_)).trans r1
    go_simp
  try simp only [Act.put, List.setIfInBounds_toArray, List.set_cons_zero, List.set_cons_succ]
  refine pureE (i := 4) (L := #[true, true, true, true, true, false, false, false, false, false]) (v := ?_) rfl (by rfl) (by kernel_rfl) (by kernel_rfl) (by kernel_rfl) (fun _ _ _ h => hpan (by rfl) h) (by rfl) ?hy5 ?rest5
  case hy5 => intro w; go_simp; (try with_reducible rfl)
  try simp only [Act.put, List.setIfInBounds_toArray, List.set_cons_zero, List.set_cons_succ]
  refine pureE (i := 5) (L := #[true, true, true, true, true, true, false, false, false, false]) (v := ?_) rfl (by rfl) (by kernel_rfl) (by kernel_rfl) (by kernel_rfl) (fun _ _ _ h => hpan (by rfl) h) (by rfl) ?hy6 ?rest6
  case hy6 => intro w; go_simp; (try with_reducible rfl)
  try simp only [Act.put, List.setIfInBounds_toArray, List.set_cons_zero, List.set_cons_succ]
  refine pureE (i := 6) (L := #[true, true, true, true, true, true, true, false, false, false]) (v := ?_) rfl (by rfl) (by kernel_rfl) (by kernel_rfl) (by kernel_rfl) (fun _ _ _ h => hpan (by rfl) h) (by rfl) ?hy7 ?rest7
  case hy7 => intro w; go_simp; (try with_reducible rfl)
  try simp only [Act.put, List.setIfInBounds_toArray, List.set_cons_zero, List.set_cons_succ]
  refine readE (i := 7) (L := #[true, true, true, true, true, true, true, true, false, false]) (v := .int .i64 q) rfl (by rfl) (by kernel_rfl) (by kernel_rfl) (by kernel_rfl) (fun _ _ _ h => hpan (by rfl) h) (by assumption) (by rfl) ?yd ?zd
  case yd =>
    intro w' h1
    have e0 : w'.cell? ⟨b2, off2 + j, none⟩ = some (.int .i64 q) := (World.cell?_of_block (h1 _ lb2_)).trans r2
    go_simp
  try simp only [Act.put, List.setIfInBounds_toArray, List.set_cons_zero, List.set_cons_succ]
  refine pureE (i := 8) (L := #[true, true, true, true, true, true, true, true, true, false]) (v := ?_) rfl (by rfl) (by kernel_rfl) (by kernel_rfl) (by kernel_rfl) (fun _ _ _ h => hpan (by rfl) h) (by rfl) ?hy9 ?rest9
  case hy9 => intro w; go_simp; (try with_reducible rfl)
  try simp only [Act.put, List.setIfInBounds_toArray, List.set_cons_zero, List.set_cons_succ]
  refine pureE (i := 9) (L := #[true, true, true, true, true, true, true, true, true, true]) (v := ?_) rfl (by rfl) (by kernel_rfl) (by kernel_rfl) (by kernel_rfl) (fun _ _ _ h => hpan (by rfl) h) (by rfl) ?hy10 ?rest10
  case hy10 => intro w; go_simp; (try with_reducible rfl)
  try simp only [Act.put, List.setIfInBounds_toArray, List.set_cons_zero, List.set_cons_succ]
  refine doneE (by kernel_rfl) ?_ _
  have lv0 : wr.heap.size ≤ v0.heap.size := hB.size
  replace hO := hO.on hB
  replace hb := hb.trans (hB.mono (by omega))
  replace Rx := Rx.below hB (by omega)
  replace hX := box_on hX hB (lt_of_heap hX)
  replace hC : DBox v0 _ _ := box_on hC hB (lt_of_heap hC)
  replace hA : DBox v0 _ _ := box_on hA hB (lt_of_heap hA)
  replace IX := ints_on IX hB
  replace IY := ints_on IY hB
  clear hB r1 r2 kp_
  by_cases hc_ : p < 0
  · go_wp2
    exact hnext os c a X Y _ _ _ _ _ _ _ _ _ _ _ _ _ _ _ _ _ _ _ _ _ _ _ _ _ _ _ _ _ _ _ _ _ _ _ _ _ _ _ _ _ _ _ _ _ _ _ _ _ _ _ _ _ _ _ _ _ _ _ _ _ _ _ _ _ _ _ _ _ _ _ _ _ _ _ _ _ _ _ _ _ _ _ _ _ _ _ _ _ _ _ _ _ _ _ _ _ _ _ _ _ _ _ _ _ _ _ _ _ _ _ _ _ _ _ _ _ _ _ _ _ _ _ _ _ _ _ _ _ _ (by omega) hO hb (by omega) ⟨hX, Rx⟩ ⟨hC, hA⟩ ⟨IX, IY⟩ hI.out.next
  have n0 := hc_
  clear hc_
  by_cases hc_ : (i : Int) ≤ p
  · go_wp2
    exact hnext os c a X Y _ _ _ _ _ _ _ _ _ _ _ _ _ _ _ _ _ _ _ _ _ _ _ _ _ _ _ _ _ _ _ _ _ _ _ _ _ _ _ _ _ _ _ _ _ _ _ _ _ _ _ _ _ _ _ _ _ _ _ _ _ _ _ _ _ _ _ _ _ _ _ _ _ _ _ _ _ _ _ _ _ _ _ _ _ _ _ _ _ _ _ _ _ _ _ _ _ _ _ _ _ _ _ _ _ _ _ _ _ _ _ _ _ _ _ _ _ _ _ _ _ _ _ _ _ _ _ _ _ _ (by omega) hO hb (by omega) ⟨hX, Rx⟩ ⟨hC, hA⟩ ⟨IX, IY⟩ hI.out.next
  have n1 := hc_
  clear hc_
  by_cases hc_ : q < 0
  · go_wp2
    exact hnext os c a X Y _ _ _ _ _ _ _ _ _ _ _ _ _ _ _ _ _ _ _ _ _ _ _ _ _ _ _ _ _ _ _ _ _ _ _ _ _ _ _ _ _ _ _ _ _ _ _ _ _ _ _ _ _ _ _ _ _ _ _ _ _ _ _ _ _ _ _ _ _ _ _ _ _ _ _ _ _ _ _ _ _ _ _ _ _ _ _ _ _ _ _ _ _ _ _ _ _ _ _ _ _ _ _ _ _ _ _ _ _ _ _ _ _ _ _ _ _ _ _ _ _ _ _ _ _ _ _ _ _ _ (by omega) hO hb (by omega) ⟨hX, Rx⟩ ⟨hC, hA⟩ ⟨IX, IY⟩ hI.out.next
  have n2 := hc_
  clear hc_
  by_cases hc_ : (i : Int) ≤ q
  · go_wp2
    exact hnext os c a X Y _ _ _ _ _ _ _ _ _ _ _ _ _ _ _ _ _ _ _ _ _ _ _ _ _ _ _ _ _ _ _ _ _ _ _ _ _ _ _ _ _ _ _ _ _ _ _ _ _ _ _ _ _ _ _ _ _ _ _ _ _ _ _ _ _ _ _ _ _ _ _ _ _ _ _ _ _ _ _ _ _ _ _ _ _ _ _ _ _ _ _ _ _ _ _ _ _ _ _ _ _ _ _ _ _ _ _ _ _ _ _ _ _ _ _ _ _ _ _ _ _ _ _ _ _ _ _ _ _ _ (by omega) hO hb (by omega) ⟨hX, Rx⟩ ⟨hC, hA⟩ ⟨IX, IY⟩ hI.out.next
  have n3 := hc_
  clear hc_
  by_cases hc_ : p = q
  · subst hc_
    go_wp2
    exact hnext os c a X Y _ _ _ _ _ _ _ _ _ _ _ _ _ _ _ _ _ _ _ _ _ _ _ _ _ _ _ _ _ _ _ _ _ _ _ _ _ _ _ _ _ _ _ _ _ _ _ _ _ _ _ _ _ _ _ _ _ _ _ _ _ _ _ _ _ _ _ _ _ _ _ _ _ _ _ _ _ _ _ _ _ _ _ _ _ _ _ _ _ _ _ _ _ _ _ _ _ _ _ _ _ _ _ _ _ _ _ _ _ _ _ _ _ _ _ _ _ _ _ _ _ _ _ _ _ _ _ _ _ _ (by omega) hO hb (by omega) ⟨hX, Rx⟩ ⟨hC, hA⟩ ⟨IX, IY⟩ hI.out.next
  have n4 := hc_
  clear hc_
  obtain ⟨P, rfl⟩ : ∃ P : Nat, p = P := ⟨p.toNat, by omega⟩
  obtain ⟨Q, rfl⟩ : ∃ Q : Nat, q = Q := ⟨q.toNat, by omega⟩
  have hP : P < os.length := by rw [HLo.out]; omega
  have hQ : Q < os.length := by rw [HLo.out]; omega
  have hPQ : P ≠ Q := fun e => n4 (by rw [e])
  have hPi : P < i := by omega
  have hQi : Q < i := by omega
  obtain ⟨g, o_, hAo, ho, hg1, hg2⟩ := hO.addr (by omega)
  subst hAo
  have og : g < B2 := hOlt g rfl
  have HO0 := Lib.hid ho
  clear ho
  obtain ⟨mR, lR, hmt, hmR, hlR, hnext⟩ := inv_meet (t := 200 + j) (by omega) hI.out.1 (by rw [HLo.out]; omega) hP hQ hPQ (hO.rows os[P] (List.getElem_mem hP))
  have HMT := Lib.hid hmt
  have HN := Lib.hid hnext
  replace hmR := Lib.hid hmR
  replace hlR := Lib.hid hlR
  obtain ⟨dP, hdP⟩ : ∃ d, os[P] = d := ⟨_, rfl⟩
  obtain ⟨dQ, hdQ⟩ : ∃ d, os[Q] = d := ⟨_, rfl⟩
  have HDP := Lib.hid hdP
  have HDQ := Lib.hid hdQ
  clear hmt hnext hdP hdQ
  have hcP := show MCells v0 g (o_ + P * 12) dP by rw [← HDP.out]; exact hO.mcells HO0.out hP
  have hcQ := show MCells v0 g (o_ + Q * 12) dQ by rw [← HDQ.out]; exact hO.mcells HO0.out hQ
  have RP : MRows v0 0 v0.heap.size dP := by rw [← HDP.out]; exact hO.rows _ (List.getElem_mem hP)
  have RQ : MRows v0 0 v0.heap.size dQ := by rw [← HDQ.out]; exact hO.rows _ (List.getElem_mem hQ)
  go_upto_region 21 with fail
  refine nev_reg21 _ _ _ _ _ _ _ _ _ _ _ _ _ _ _ _ _ _ _ _ _ _ _ _ _ _ _ _ _ _ _ _ _ _ _ _ _ _ _ _ _ _ _ _ _ _ _ _ _ _ _ _ _ _ _ _ _ _ _ _ _ _ _ _ _ _ _ _ _ _ _ _ _ _ _ _ _ _ _ _ _ _ _ _ _ _ _ _ _ _ _ _ _ _ _ _ _ _ _ _ _ _ _ _ _ _ _ _ _ _ _ _ _ _ _ _ _ _ _ _ _ _ _ _ _ _ _ _ _ _ _ _ _ _ _ _ _ _ _ _ _ _ _ _ _ _ _ _ _ _ _ _ _ _ _ _ _ _ _ _ _ _ _ _ _ _ _ _ _ _ _ _ _ _ _ _ _ _ _ _ _ _ _ _ _ _ _ _ _ _ _ _ _ _ _ _ _ _ _ _ _ _ _ _ _ _ _ _ _ _ _ _ _ _ _ _ _ _ _ _ _ _ _ _ _ _ _ _ _ _ _ _ _ _ _ _ _ _ _ _ _ _ _ _ _ _ _ _ _ _ _ _ _ _ _ _ _ _ _ _ v0 g o_ i co P Q dP dQ hcP hcQ RP RQ hg2 hPi hQi hn8 (hT.below hb hT.lt) mR lR (by rw [← HDP.out, ← HDQ.out]; exact HMT.out) (fun e h => hpan e h) ?_
  intro g19 g20 m d y163 y164 y165 y166 y167 y168 y169 y170 y171 y172 y173 y174 y175 v1 l19 l20 hM hD hB hma hmb Rm Rd
  have him := Lib.hid (And.intro hma hmb)
  clear hma hmb hcP hcQ RP RQ HMT
  simp only [Exit.then]
  have lv1 : v0.heap.size ≤ v1.heap.size := hB.size
  replace hO := hO.on hB
  replace hb := hb.trans (hB.mono (by omega))
  replace Rx := Rx.below hB (by omega)
  replace hX := box_on hX hB (lt_of_heap hX)
  replace hC : DBox v1 _ _ := box_on hC hB (lt_of_heap hC)
  replace hA : DBox v1 _ _ := box_on hA hB (lt_of_heap hA)
  replace IX := ints_on IX hB
  replace IY := ints_on IY hB
  clear hB
  have l19' := lt_of_heap hM
  have l20' := lt_of_heap hD
  obtain ⟨T, hdn, mT, hrest⟩ := HN.out d him.out.2
  have HDN : Hid (doneM dP d = (T, 0)) := Lib.hid (by rw [← HDP.out]; exact hdn)
  have HR_ := Lib.hid hrest
  have MT := Lib.hid mT
  clear hdn hrest mT HN
  obtain ⟨U, hU, hO2, hbU, hfU, lU, lU'⟩ := hO.put HO0.out hQ m (Rm.more (Nat.zero_le _) (Nat.le_refl _)) (rows_off Rm fun k hk => by
    injection hk with hk
    exact .inl (by omega))
  have hfz := fun k => hO.frz HO0.out k
  obtain ⟨k0, k1, k2, k3, k4, k5, k6, k7, k8, k9, k10, k11⟩ := hO.mcells HO0.out hQ
  obtain ⟨⟨y0, y1, y2, y3, y4, y5, y6, y7, y8, y9, y10, y11⟩, yf⟩ := MBox.cells hM
  go_upto_region 25 with fail
  try rw [hU]
  clear hU hfz k0 k1 k2 k3 k4 k5 k6 k7 k8 k9 k10 k11 y0 y1 y2 y3 y4 y5 y6 y7 y8 y9 y10 y11 yf
  clear hO
  have hg_ := grown_put hbU hfU
  replace hb := hbU _ _ hb (by omega)
  replace Rx := rows_rng Rx (w' := U) (fun b h1 h2 => hfU b (by omega))
  replace hX : MBox U _ _ := (hfU _ (by omega)).trans hX
  replace hM := (hfU _ (by omega)).trans hM
  replace hD := (hfU _ (by omega)).trans hD
  replace Rm := rows_rng Rm (w' := U) (fun b h1 h2 => hfU b (by omega))
  replace Rd := rows_rng Rd (w' := U) (fun b h1 h2 => hfU b (by omega))
  replace hC : DBox U _ _ := (hfU _ (by omega)).trans hC
  replace hA : DBox U _ _ := (hfU _ (by omega)).trans hA
  replace IX := ints_grown IX hg_ (fun a e h0 => hI.out.2.2.2.2.2.2.1 a e h0)
  replace IY := ints_grown IY hg_ (fun a e h0 => hI.out.2.2.2.2.2.2.2 a e h0)
  clear hg_ hbU hfU
  replace hM : MBox U _ _ := hM
  replace hD : MBox U _ _ := hD
  have hO := hO2
  clear hO2
  have hP2 : P < (os.set Q m).length := by simp; exact hP
  have hcP := Lib.hid (show MCells U g (o_ + P * 12) dP by
    have := hO.mcells HO0.out hP2
    rw [List.getElem_set_ne (by omega)] at this
    rw [← HDP.out]
    exact this)
  have RP : MRows U 0 U.heap.size dP := by
    have := hO.rows _ (List.getElem_mem hP2)
    rw [List.getElem_set_ne (by omega)] at this
    rw [← HDP.out]
    exact this
  have RD : MRows U 0 U.heap.size d := Rd.more (Nat.zero_le _) (by omega)

  refine nev_reg25 _ _ _ _ _ _ _ _ _ _ _ _ _ _ _ _ _ _ _ _ _ _ _ _ _ _ _ _ _ _ _ _ _ _ _ _ _ _ _ _ _ _ _ _ _ _ _ _ _ _ _ _ _ _ _ _ _ _ _ _ _ _ _ _ _ _ _ _ _ _ _ _ _ _ _ _ _ _ _ _ _ _ _ _ _ _ _ _ _ _ _ _ _ _ _ _ _ _ _ _ _ _ _ _ _ _ _ _ _ _ _ _ _ _ _ _ _ _ _ _ _ _ _ _ _ _ _ _ _ _ _ _ _ _ _ _ _ _ _ _ _ _ _ _ _ _ _ _ _ _ _ _ _ _ _ _ _ _ _ _ _ _ _ _ _ _ _ _ _ _ _ _ _ _ _ _ _ _ _ _ _ _ _ _ _ _ _ _ _ _ _ _ _ _ _ _ _ _ _ _ _ _ _ _ _ _ _ _ _ _ _ _ _ _ _ _ _ _ _ _ _ _ _ _ _ _ _ _ _ _ _ _ _ _ _ _ _ _ _ _ _ _ _ _ _ _ _ _ _ _ _ _ _ _ _ _ _ _ _ _ U g o_ i co P g20 dP d hcP.out hD RP RD (by omega) hPi hn8 (hT.below hb hT.lt) T HDN.out (fun e h => hpan e h) ?_
  intro g22 x' y182 y183 y184 y185 y186 y187 y188 y189 y190 v2 l22 hXx hB hixx Rx'
  have hix := Lib.hid hixx
  clear hixx hcP RP RD hD hM HDN
  simp only [Exit.then]
  have lv2 : U.heap.size ≤ v2.heap.size := hB.size
  replace hO := hO.on hB
  replace hb := hb.trans (hB.mono (by omega))
  replace Rx := Rx.below hB (by omega)
  replace hX := box_on hX hB (lt_of_heap hX)
  replace hC : DBox v2 _ _ := box_on hC hB (lt_of_heap hC)
  replace hA : DBox v2 _ _ := box_on hA hB (lt_of_heap hA)
  replace IX := ints_on IX hB
  replace IY := ints_on IY hB
  replace Rm := Rm.below hB (by omega)
  clear hB
  have l22' := lt_of_heap hXx
  obtain ⟨V, hV, hO3, hbV, hfV, lV, lV'⟩ := hO.put HO0.out hP2 x' (Rx'.more (Nat.zero_le _) (Nat.le_refl _)) (rows_off Rx' fun k hk => by
    injection hk with hk
    exact .inl (by omega))
  have hfz := fun k => hO.frz HO0.out k
  obtain ⟨k0, k1, k2, k3, k4, k5, k6, k7, k8, k9, k10, k11⟩ := hO.mcells HO0.out hP2
  obtain ⟨⟨y0, y1, y2, y3, y4, y5, y6, y7, y8, y9, y10, y11⟩, yf⟩ := MBox.cells hXx
  go_wp2_with fail
  try rw [hV]
  clear hV hfz k0 k1 k2 k3 k4 k5 k6 k7 k8 k9 k10 k11 y0 y1 y2 y3 y4 y5 y6 y7 y8 y9 y10 y11 yf hXx hO
  have hg_ := grown_put hbV hfV
  replace hb := hbV _ _ hb (by omega)
  replace Rx := rows_rng Rx (w' := V) (fun b h1 h2 => hfV b (by omega))
  replace hX : MBox V _ _ := (hfV _ (by omega)).trans hX
  replace Rm := rows_rng Rm (w' := V) (fun b h1 h2 => hfV b (by omega))
  replace Rx' := rows_rng Rx' (w' := V) (fun b h1 h2 => hfV b (by omega))
  replace hC : DBox V _ _ := (hfV _ (by omega)).trans hC
  replace hA : DBox V _ _ := (hfV _ (by omega)).trans hA
  replace IX := ints_grown IX hg_ (fun a e h0 => hI.out.2.2.2.2.2.2.1 a e h0)
  replace IY := ints_grown IY hg_ (fun a e h0 => hI.out.2.2.2.2.2.2.2 a e h0)
  clear hg_ hbV hfV
  have hO := hO3
  clear hO3
  obtain ⟨os3, hos3⟩ : ∃ l, l = (os.set Q m).set P x' := ⟨_, rfl⟩
  obtain ⟨hinv3, hsum3, c_, a_, c3, a3, hf0, hf3, cm1, cm2⟩ := HR_.out m x' him.out.1 hix.out
  rw [← hos3] at hinv3 hsum3 hf3 hO
  have hca : c_ = c ∧ a_ = a := by
    have e := hf0.symm.trans (hI.out.2.2.1 (by omega))
    injection e with e _
    injection e with e1 e2
    exact ⟨e1, e2⟩
  obtain ⟨rfl, rfl⟩ := hca
  have hoff3 : Hid (∀ y ∈ os3, y.off (some gC) ∧ y.off (some (gC + 1))) := Lib.hid fun y hy => by
    rw [hos3] at hy
    have r1 : ∀ k, k < B6 → m.off (some k) := fun k hk => rows_off Rm fun k' e => by
      injection e with e
      exact .inl (by omega)
    have r2 : ∀ k, k < B6 → x'.off (some k) := fun k hk => rows_off Rx' fun k' e => by
      injection e with e
      exact .inl (by omega)
    rcases List.mem_or_eq_of_mem_set hy with hy | rfl
    · rcases List.mem_or_eq_of_mem_set hy with hy | rfl
      · exact hI.out.2.2.2.2.1 y hy
      · exact ⟨r1 _ (by omega), r1 _ (by omega)⟩
    · exact ⟨r2 _ (by omega), r2 _ (by omega)⟩
  have HINV := Lib.hid hinv3
  have HSUM := Lib.hid hsum3
  have HF3 := Lib.hid hf3
  have CM1 := Lib.hid cm1
  have CM2 := Lib.hid cm2
  have mfar := farM_may os3
  rw [hf3] at mfar
  have MF := Lib.hid mfar
  clear hos3 hinv3 hsum3 hf0 hf3 cm1 cm2 mfar HR_ Rm Rx'
  go_wp2_with fail
  refine (Far_num V _ i co os3 hO.lms (by omega) (hT.below hb hT.lt) c3 a3 0 HF3.out).mono ?_
  rintro e v3 ⟨X3, Y3, rfl, hB, iX3, iY3, B3, lb31, lb32, IX3, IY3⟩
  replace iX3 := Lib.hid iX3
  replace iY3 := Lib.hid iY3
  have lv3 : V.heap.size ≤ v3.heap.size := hB.size
  replace hO := hO.on hB
  replace hb := hb.trans (hB.mono (by omega))
  replace Rx := Rx.below hB (by omega)
  replace hX := box_on hX hB (lt_of_heap hX)
  replace hC : DBox v3 _ _ := box_on hC hB (lt_of_heap hC)
  replace hA : DBox v3 _ _ := box_on hA hB (lt_of_heap hA)
  replace IX := ints_on IX hB
  replace IY := ints_on IY hB
  clear hB
  generalize hw7 : (v3.alloc (.cells #[.bool X3.s, .slice X3.A X3.n X3.c, .int .i64 X3.e] 24)).alloc (.cells #[.bool Y3.s, .slice Y3.A Y3.n Y3.c, .int .i64 Y3.e] 24) = v4
  obtain ⟨hC3, hA3, hB, lo7, hi7⟩ := boxes2 v3 _ _ hw7
  replace hC3 : DBox v4 v3.heap.size X3 := hC3
  replace hA3 : DBox v4 (v3.heap.size + 1) Y3 := hA3
  replace hB : Below v3.heap.size v3 v4 := hB
  replace IX3 := IX3.below hB (by omega)
  replace IY3 := IY3.below hB (by omega)
  have lv4 : v3.heap.size ≤ v4.heap.size := hB.size
  replace hO := hO.on hB
  replace hb := hb.trans (hB.mono (by omega))
  replace Rx := Rx.below hB (by omega)
  replace hX := box_on hX hB (lt_of_heap hX)
  replace hC : DBox v4 _ _ := box_on hC hB (lt_of_heap hC)
  replace hA : DBox v4 _ _ := box_on hA hB (lt_of_heap hA)
  replace IX := ints_on IX hB
  replace IY := ints_on IY hB
  clear hB
  obtain ⟨⟨e0, e1, e2⟩, _⟩ := boxD hC3
  obtain ⟨⟨e3, e4, e5⟩, _⟩ := boxD hC
  go_wp2_with fail
  try clear hw7
  obtain ⟨z1, hz⟩ : ∃ z, cmpD c3 c_ = z := ⟨_, rfl⟩
  have hz1 : ¬ 0 < z1 := by
    have := CM1.out
    omega
  refine (Cmp_all v4 X3.s X.s X3.A X.A X3.n X3.c X.n X.c X3.xs X.xs X3.e X.e (IX3.more (Nat.zero_le _) (by omega)) IX (hT.below hb hT.lt) z1 0 (by rw [is_cmp iX3.out hI.out.2.2.2.1.2.2.1 MF.out.1 hI.out.2.2.2.1.1, hz])).mono ?_
  rintro e v5 ⟨rfl, hB⟩
  clear hz e0 e1 e2 e3 e4 e5
  replace hC3 : DBox v5 _ _ := box_on hC3 hB (lt_of_heap hC3)
  replace hA3 : DBox v5 _ _ := box_on hA3 hB (lt_of_heap hA3)
  replace IX3 := IX3.below hB (by omega)
  replace IY3 := IY3.below hB (by omega)
  have lv5 : v4.heap.size ≤ v5.heap.size := hB.size
  replace hO := hO.on hB
  replace hb := hb.trans (hB.mono (by omega))
  replace Rx := Rx.below hB (by omega)
  replace hX := box_on hX hB (lt_of_heap hX)
  replace hC : DBox v5 _ _ := box_on hC hB (lt_of_heap hC)
  replace hA : DBox v5 _ _ := box_on hA hB (lt_of_heap hA)
  replace IX := ints_on IX hB
  replace IY := ints_on IY hB
  clear hB
  obtain ⟨⟨e0, e1, e2⟩, _⟩ := boxD hA3
  obtain ⟨⟨e3, e4, e5⟩, _⟩ := boxD hA
  go_wp2_with fail
  skip
  obtain ⟨z2, hz⟩ : ∃ z, cmpD a3 a_ = z := ⟨_, rfl⟩
  have hz2 : ¬ 0 < z2 := by
    have := CM2.out
    omega
  refine (Cmp_all v5 Y3.s Y.s Y3.A Y.A Y3.n Y3.c Y.n Y.c Y3.xs Y.xs Y3.e Y.e (IY3.more (Nat.zero_le _) (by omega)) IY (hT.below hb hT.lt) z2 0 (by rw [is_cmp iY3.out hI.out.2.2.2.1.2.2.2 MF.out.2 hI.out.2.2.2.1.2.1, hz])).mono ?_
  rintro e v6 ⟨rfl, hB⟩
  clear hz e0 e1 e2 e3 e4 e5
  replace hC3 : DBox v6 _ _ := box_on hC3 hB (lt_of_heap hC3)
  replace hA3 : DBox v6 _ _ := box_on hA3 hB (lt_of_heap hA3)
  replace IX3 := IX3.below hB (by omega)
  replace IY3 := IY3.below hB (by omega)
  have lv6 : v5.heap.size ≤ v6.heap.size := hB.size
  replace hO := hO.on hB
  replace hb := hb.trans (hB.mono (by omega))
  replace Rx := Rx.below hB (by omega)
  replace hX := box_on hX hB (lt_of_heap hX)
  replace hC : DBox v6 _ _ := box_on hC hB (lt_of_heap hC)
  replace hA : DBox v6 _ _ := box_on hA hB (lt_of_heap hA)
  replace IX := ints_on IX hB
  replace IY := ints_on IY hB
  clear hB
  go_wp2_with fail
  refine region_E (fun W' : World => DBox W' v3.heap.size X3 ∧ DBox W' (v3.heap.size + 1) Y3) [] (m := 4) (L := #[false, false, false, false]) (by kernel_rfl) (by rfl) (by rfl) ?_
  have hS0 : DBox v6.drew v3.heap.size X3 ∧ DBox v6.drew (v3.heap.size + 1) Y3 := ⟨hC3, hA3⟩
  have hB : Below v6.heap.size v6 v6.drew := (Below.refl _ _).drew
  replace IX3 := IX3.below hB (by omega)
  replace IY3 := IY3.below hB (by omega)
  have l8 : v6.heap.size ≤ v6.drew.heap.size := Nat.le_refl _
  clear hC3 hA3
  generalize v6.drew = v7 at *
  have lv7 : v6.heap.size ≤ v7.heap.size := hB.size
  replace hO := hO.on hB
  replace hb := hb.trans (hB.mono (by omega))
  replace Rx := Rx.below hB (by omega)
  replace hX := box_on hX hB (lt_of_heap hX)
  replace hC : DBox v7 _ _ := box_on hC hB (lt_of_heap hC)
  replace hA : DBox v7 _ _ := box_on hA hB (lt_of_heap hA)
  replace IX := ints_on IX hB
  replace IY := ints_on IY hB
  clear hB
  refine readE (i := 0) (L := #[true, false, false, false]) (v := .agg #[.bool X3.s, .slice X3.A X3.n X3.c, .int .i64 X3.e]) rfl (by rfl) (by kernel_rfl) (by kernel_rfl) (by kernel_rfl) (fun _ _ _ h => hpan (by rfl) h) (by assumption) (by rfl) ?ye ?ze
  case ye =>
    intro w' h1
    obtain ⟨⟨e0, e1, e2⟩, _⟩ := boxD h1.1
    go_simp
  try simp only [Act.put, List.setIfInBounds_toArray, List.set_cons_zero, List.set_cons_succ]
  refine readE (i := 1) (L := #[true, true, false, false]) (v := .agg #[.bool Y3.s, .slice Y3.A Y3.n Y3.c, .int .i64 Y3.e]) rfl (by rfl) (by kernel_rfl) (by kernel_rfl) (by kernel_rfl) (fun _ _ _ h => hpan (by rfl) h) (by assumption) (by rfl) ?yg ?zg
  case yg =>
    intro w' h1
    obtain ⟨⟨e0, e1, e2⟩, _⟩ := boxD h1.2
    go_simp
  try simp only [Act.put, List.setIfInBounds_toArray, List.set_cons_zero, List.set_cons_succ]
  clear IX IY
  obtain ⟨⟨p0, p1, p2⟩, p3, p4, p5⟩ := boxD hC
  obtain ⟨v8, hw_, n_, hb_, hf_, lv8, l2v8⟩ := zput hC (.bool X3.s) (.slice X3.A X3.n X3.c) (.int .i64 X3.e)
  refine stepK (i := 2) (L := #[true, true, true, false]) rfl (by rfl) (by kernel_rfl) (by rfl) (fun K hK => ?_)
  go_simp
  try rw [hw_]
  have hS1 : DBox v8 v3.heap.size X3 ∧ DBox v8 (v3.heap.size + 1) Y3 := ⟨(hf_ _ (by omega)).trans hS0.1, (hf_ _ (by omega)).trans hS0.2⟩
  refine hK _ _ ⟨fun _ _ => hS1, ?_⟩
  clear hK K hw_ p0 p1 p2 p3 p4 p5 hS0
  try simp only [Act.put, List.setIfInBounds_toArray, List.set_cons_zero, List.set_cons_succ]
  have hS0 := hS1
  have hg_ := grown_put hb_ hf_
  replace hb := hb_ _ _ hb (by omega)
  replace Rx := rows_rng Rx (w' := v8) (fun b h1 h2 => hf_ b (by omega))
  replace hX : MBox v8 _ _ := (hf_ _ (by omega)).trans hX
  replace IX3 := ints_rng IX3 (w' := v8) (fun b h1 h2 => hf_ b (by omega))
  replace IY3 := ints_rng IY3 (w' := v8) (fun b h1 h2 => hf_ b (by omega))
  replace hO := hO.grown hg_ (by
    intro e
    injection e with e
    simp only at e
    omega) (fun y hy => (hoff3.out y hy).1)
  clear hS1 hb_
  have hCn : DBox v8 gC X3 := n_
  replace hA : DBox v8 _ _ := (hf_ _ (by omega)).trans hA
  clear n_ hf_ hg_ hC
  obtain ⟨⟨p0, p1, p2⟩, p3, p4, p5⟩ := boxD hA
  obtain ⟨v9, hw_, n_, hb_, hf_, lv9, l2v9⟩ := zput hA (.bool Y3.s) (.slice Y3.A Y3.n Y3.c) (.int .i64 Y3.e)
  refine stepK (i := 3) (L := #[true, true, true, true]) rfl (by rfl) (by kernel_rfl) (by rfl) (fun K hK => ?_)
  go_simp
  try rw [hw_]
  have hS1 : DBox v9 v3.heap.size X3 ∧ DBox v9 (v3.heap.size + 1) Y3 := ⟨(hf_ _ (by omega)).trans hS0.1, (hf_ _ (by omega)).trans hS0.2⟩
  refine hK _ _ ⟨fun _ _ => hS1, ?_⟩
  clear hK K hw_ p0 p1 p2 p3 p4 p5 hS0
  try simp only [Act.put, List.setIfInBounds_toArray, List.set_cons_zero, List.set_cons_succ]
  have hS0 := hS1
  have hg_ := grown_put hb_ hf_
  replace hb := hb_ _ _ hb (by omega)
  replace Rx := rows_rng Rx (w' := v9) (fun b h1 h2 => hf_ b (by omega))
  replace hX : MBox v9 _ _ := (hf_ _ (by omega)).trans hX
  replace IX3 := ints_rng IX3 (w' := v9) (fun b h1 h2 => hf_ b (by omega))
  replace IY3 := ints_rng IY3 (w' := v9) (fun b h1 h2 => hf_ b (by omega))
  replace hO := hO.grown hg_ (by
    intro e
    injection e with e
    simp only at e
    omega) (fun y hy => (hoff3.out y hy).2)
  clear hS1 hb_
  have hAn : DBox v9 (gC + 1) Y3 := n_
  replace hCn : DBox v9 _ _ := (hf_ _ (by omega)).trans hCn
  clear n_ hf_ hg_ hA
  refine doneE (by kernel_rfl) ?_ _
  have hI3 : Hid (NevI i (j + 1) os0 os3 c3 a3 X3 Y3 gC (gC + 1) (Value.slice (some ⟨g, o_, none⟩) i co).ownBlock) := Lib.hid ⟨HINV.out, fun z hz => (HSUM.out z hz).trans (hI.out.2.1 z hz), fun _ => HF3.out, ⟨MF.out.1, MF.out.2, iX3.out, iY3.out⟩, hoff3.out, ⟨dv_off IX3 (.inl (by omega)), dv_off IX3 (.inl (by omega)), dv_off IY3 (.inl (by omega)), dv_off IY3 (.inl (by omega))⟩, ⟨dv_off (k := g) IX3 (.inl (by omega)), dv_off (k := g) IY3 (.inl (by omega))⟩⟩
  have IX4 : Ints v9 0 v9.heap.size .u32 X3.A X3.n X3.xs := IX3.more (Nat.zero_le _) (by omega)
  have IY4 : Ints v9 0 v9.heap.size .u32 Y3.A Y3.n Y3.xs := IY3.more (Nat.zero_le _) (by omega)
  clear IX3 IY3 hI HINV HSUM HF3 MF iX3 iY3 hoff3 hS0 CM1 CM2
  go_wp2
  exact hnext os3 c3 a3 X3 Y3 _ _ _ _ _ _ _ _ _ _ _ _ _ _ _ _ _ _ _ _ _ _ _ _ _ _ _ _ _ _ _ _ _ _ _ _ _ _ _ _ _ _ _ _ _ _ _ _ _ _ _ _ _ _ _ _ _ _ _ _ _ _ _ _ _ _ _ _ _ _ _ _ _ _ _ _ _ _ _ _ _ _ _ _ _ _ _ _ _ _ _ _ _ _ _ _ _ _ _ _ _ _ _ _ _ _ _ _ _ _ _ _ _ _ _ _ _ _ _ _ _ _ _ _ _ _ _ _ _ _ (by omega) hO hb (by omega) ⟨hX, Rx⟩ ⟨hCn, hAn⟩ ⟨IX4, IY4⟩ hI3.out
end Ma
end Go.Proofs.YtlbkepiflhchdaaDoor
namespace Go.Proofs.YtlbkepiflhchdaaDoor
open Go.RowKit
namespace Ma
open Dp Dy
set_option maxHeartbeats 102400000 in
set_option maxRecDepth 100000 in
theorem never_walk (w : World) (A : Option Addr) (n c : Nat) (ms : List Mv) (hL : LMs w 0 w.heap.size A n ms) (A1 : Option Addr) (n1 c1 : Nat) (xs1 : List Int) (hx1 : Ints w 0 w.heap.size .i64 A1 n1 xs1) (A2 : Option Addr) (n2 c2 : Nat) (xs2 : List Int) (hx2 : Ints w 0 w.heap.size .i64 A2 n2 xs2) (hT : Tab w) :
    Calls Tryd.prog 17 #[.slice A n c, .slice A1 n1 c1, .slice A2 n2 c2] w (Yes w) := by
  have HL := Lib.hid hL.len
  obtain ⟨i0, hi0, hz0, hz1, hz2⟩ := info_parts infoM
  have g0 := hT.lt
  go_enter Tryd.func17, Tryd.ntmps17
  go_wp2_with fail
  refine (alive16_any w hT).mono ?_
  rintro e w1 ⟨rfl, hb⟩
  by_cases hn8 : 8 < n
  · go_wp2
    go_ret
    exact ⟨rfl, hb⟩
  by_cases hn40 : 40 < n1
  · go_wp2
    go_ret
    exact ⟨rfl, hb⟩
  go_wp2
  go_loopw [6, 8, 9, 10] (fun ev ov iv _ wr => ∃ (i : Nat) (os : List Mv), iv = .int .i64 i ∧ ev = .bool false ∧ i ≤ n ∧ OwnM wr w.heap.size ov i os ∧ Below w.heap.size w wr ∧ Hid (Inv 200 os)) (fun _ _ iv _ _ => n - (intOf iv).toNat)
  case atStart => exact ⟨0, [], rfl, rfl, Nat.zero_le _, OwnM.nil_ _ _, hb, Lib.hid fun m hm => absurd hm (by simp)⟩
  case round =>
    clear hb
    obtain ⟨i, os, rfl, rfl, hi1, hO, hb, hInv⟩ := hrel
    have hLr := hL.below hb (Nat.le_refl _)
    have lw := hb.size
    obtain ⟨Ao, co, rfl, hcap, hcm⟩ := hO.shape
    by_cases hlt : i < n
    · skip
      have hi2 : i < ms.length := by rw [HL.out]; exact hlt
      obtain ⟨b, off, hA, h1, h2, hc⟩ := hLr.row (by omega)
      have hci := hc i hi2
      have hri := hLr.rows i hi2
      obtain ⟨d, hd⟩ : ∃ d, ms[i] = d := ⟨_, rfl⟩
      rw [hd] at hci hri
      have HD := Lib.hid hd
      clear hd hc
      subst hA
      clear hLr
      have hwr : IntKind.i64.wrap ((i : Int) + 1) = ((i + 1 : Nat) : Int) := by rw [IntKind.wrap_i64]; omega
      have hciH := Lib.hid hci
      obtain ⟨k0, k1, k2, k3, k4, k5, k6, k7, k8, k9, k10, k11⟩ := hci
      have e7 : wr.cell? ⟨b, off + i * 12 + 6 + 1, none⟩ = some (.slice d.C.A d.C.n d.C.c) := k7
      have e8 : wr.cell? ⟨b, off + i * 12 + 6 + 2, none⟩ = some (.int .i64 d.C.e) := k8
      have e10 : wr.cell? ⟨b, off + i * 12 + 9 + 1, none⟩ = some (.slice d.A.A d.A.n d.A.c) := k10
      have e11 : wr.cell? ⟨b, off + i * 12 + 9 + 2, none⟩ = some (.int .i64 d.A.e) := k11
      by_cases q1 : 8 < d.C.n
      · go_wp2
        go_ret
        exact ⟨rfl, hb⟩
      by_cases q2 : 8 < d.A.n
      · go_wp2
        go_ret
        exact ⟨rfl, hb⟩
      by_cases q3 : 200 < d.C.e
      · go_wp2
        go_ret
        exact ⟨rfl, hb⟩
      by_cases q4 : 200 < d.A.e
      · go_wp2
        go_ret
        exact ⟨rfl, hb⟩
      go_wp2_with fail
      clear k0 k1 k2 k3 k4 k5 k6 k7 k8 k9 k10 k11 e7 e8 e10 e11
      have kp_ : Keeps wr wr.drew := fun _ _ => rfl
      refine region_E (Keeps wr) [] (m := 13) (L := #[false, false, false, false, false, false, false, false, false, false, false, false, false]) (by kernel_rfl) (by rfl) (by rfl) ?_
      have b_ : Below wr.heap.size wr wr.drew := (Below.refl _ _).drew
      have l2 : wr.heap.size ≤ wr.drew.heap.size := Nat.le_refl _
      have hlt2 : b < wr.heap.size := by omega
      generalize wr.drew = w2 at *
      refine pureE (i := 0) (L := #[true, false, false, false, false, false, false, false, false, false, false, false, false]) (v := ?_) rfl (by rfl) (by kernel_rfl) (by kernel_rfl) (by kernel_rfl) (fun _ _ _ h => h) (by rfl) ?hy15 ?rest15
      case hy15 => intro w; go_simp; (try with_reducible rfl)
      try simp only [Act.put, List.setIfInBounds_toArray, List.set_cons_zero, List.set_cons_succ]
      refine pureE (i := 1) (L := #[true, true, false, false, false, false, false, false, false, false, false, false, false]) (v := ?_) rfl (by rfl) (by kernel_rfl) (by kernel_rfl) (by kernel_rfl) (fun _ _ _ h => h) (by rfl) ?hy16 ?rest16
      case hy16 => intro w; go_simp; (try with_reducible rfl)
      try simp only [Act.put, List.setIfInBounds_toArray, List.set_cons_zero, List.set_cons_succ]
      refine pureE (i := 2) (L := #[true, true, true, false, false, false, false, false, false, false, false, false, false]) (v := ?_) rfl (by rfl) (by kernel_rfl) (by kernel_rfl) (by kernel_rfl) (fun _ _ _ h => h) (by rfl) ?hy17 ?rest17
      case hy17 => intro w; go_simp; (try with_reducible rfl)
      try simp only [Act.put, List.setIfInBounds_toArray, List.set_cons_zero, List.set_cons_succ]
      refine pureE (i := 3) (L := #[true, true, true, true, false, false, false, false, false, false, false, false, false]) (v := ?_) rfl (by rfl) (by kernel_rfl) (by kernel_rfl) (by kernel_rfl) (fun _ _ _ h => h) (by rfl) ?hy18 ?rest18
      case hy18 => intro w; go_simp; (try with_reducible rfl)
      try simp only [Act.put, List.setIfInBounds_toArray, List.set_cons_zero, List.set_cons_succ]
      refine readE (i := 4) (L := #[true, true, true, true, true, false, false, false, false, false, false, false, false]) (v := .agg #[.bool d.C.s, .slice d.C.A d.C.n d.C.c, .int .i64 d.C.e]) rfl (by rfl) (by kernel_rfl) (by kernel_rfl) (by kernel_rfl) (fun _ _ _ h => h) (by assumption) (by rfl) ?ya ?za
      case ya =>
        intro w' h1
        obtain ⟨k0, k1, k2, k3, k4, k5, k6, k7, k8, k9, k10, k11⟩ := hciH.out.blk (h1 _ hlt2)
        have e7 : w'.cell? ⟨b, off + i * 12 + 6 + 1, none⟩ = some (.slice d.C.A d.C.n d.C.c) := k7
        have e8 : w'.cell? ⟨b, off + i * 12 + 6 + 2, none⟩ = some (.int .i64 d.C.e) := k8
        go_simp
      try simp only [Act.put, List.setIfInBounds_toArray, List.set_cons_zero, List.set_cons_succ]
      refine pureE (i := 5) (L := #[true, true, true, true, true, true, false, false, false, false, false, false, false]) (v := ?_) rfl (by rfl) (by kernel_rfl) (by kernel_rfl) (by kernel_rfl) (fun _ _ _ h => h) (by rfl) ?hy20 ?rest20
      case hy20 => intro w; go_simp; (try with_reducible rfl)
      try simp only [Act.put, List.setIfInBounds_toArray, List.set_cons_zero, List.set_cons_succ]
      refine pureE (i := 6) (L := #[true, true, true, true, true, true, true, false, false, false, false, false, false]) (v := ?_) rfl (by rfl) (by kernel_rfl) (by kernel_rfl) (by kernel_rfl) (fun _ _ _ h => h) (by rfl) ?hy21 ?rest21
      case hy21 => intro w; go_simp; (try with_reducible rfl)
      try simp only [Act.put, List.setIfInBounds_toArray, List.set_cons_zero, List.set_cons_succ]
      refine pureE (i := 7) (L := #[true, true, true, true, true, true, true, true, false, false, false, false, false]) (v := ?_) rfl (by rfl) (by kernel_rfl) (by kernel_rfl) (by kernel_rfl) (fun _ _ _ h => h) (by rfl) ?hy22 ?rest22
      case hy22 => intro w; go_simp; (try with_reducible rfl)
      try simp only [Act.put, List.setIfInBounds_toArray, List.set_cons_zero, List.set_cons_succ]
      refine pureE (i := 8) (L := #[true, true, true, true, true, true, true, true, true, false, false, false, false]) (v := ?_) rfl (by rfl) (by kernel_rfl) (by kernel_rfl) (by kernel_rfl) (fun _ _ _ h => h) (by rfl) ?hy23 ?rest23
      case hy23 => intro w; go_simp; (try with_reducible rfl)
      try simp only [Act.put, List.setIfInBounds_toArray, List.set_cons_zero, List.set_cons_succ]
      refine readE (i := 9) (L := #[true, true, true, true, true, true, true, true, true, true, false, false, false]) (v := .agg #[.bool d.A.s, .slice d.A.A d.A.n d.A.c, .int .i64 d.A.e]) rfl (by rfl) (by kernel_rfl) (by kernel_rfl) (by kernel_rfl) (fun _ _ _ h => h) (by assumption) (by rfl) ?yb ?zb
      case yb =>
        intro w' h1
        obtain ⟨k0, k1, k2, k3, k4, k5, k6, k7, k8, k9, k10, k11⟩ := hciH.out.blk (h1 _ hlt2)
        have e10 : w'.cell? ⟨b, off + i * 12 + 9 + 1, none⟩ = some (.slice d.A.A d.A.n d.A.c) := k10
        have e11 : w'.cell? ⟨b, off + i * 12 + 9 + 2, none⟩ = some (.int .i64 d.A.e) := k11
        go_simp
      try simp only [Act.put, List.setIfInBounds_toArray, List.set_cons_zero, List.set_cons_succ]
      refine pureE (i := 10) (L := #[true, true, true, true, true, true, true, true, true, true, true, false, false]) (v := ?_) rfl (by rfl) (by kernel_rfl) (by kernel_rfl) (by kernel_rfl) (fun _ _ _ h => h) (by rfl) ?hy25 ?rest25
      case hy25 => intro w; go_simp; (try with_reducible rfl)
      try simp only [Act.put, List.setIfInBounds_toArray, List.set_cons_zero, List.set_cons_succ]
      refine stepK (i := 11) (L := #[true, true, true, true, true, true, true, true, true, true, true, true, false]) rfl (by rfl) (by kernel_rfl) (by rfl) (fun K hK => ?_)
      go_simp
      obtain ⟨w3, hw3, hN, hB3, l3⟩ := alloc_z w2
      rw [hw3]
      replace kp_ := Keeps.on kp_ l2 hB3
      replace b_ := b_.trans (hB3.mono l2)
      clear hw3 hB3
      refine hK _ _ ⟨fun _ _ => kp_, ?_⟩
      clear hK K
      try simp only [Act.put, List.setIfInBounds_toArray, List.set_cons_zero, List.set_cons_succ]
      obtain ⟨⟨z0, z1, z2, z3, z4, z5, z6, z7, z8, z9, z10, z11⟩, zf⟩ := MBox.cells hN
      obtain ⟨M, hM⟩ : ∃ M : Mv, M = ⟨ZM.S, ZM.W, d.C, d.A⟩ := ⟨_, rfl⟩
      obtain ⟨w4, hw4, hN4, hb4, hf4, l4, l4'⟩ := all_to hN ⟨⟨false, none, 0, 0, 0, []⟩, ⟨false, none, 0, 0, 0, []⟩, d.C, d.A⟩
      refine stepK (i := 12) (L := #[true, true, true, true, true, true, true, true, true, true, true, true, true]) rfl (by rfl) (by kernel_rfl) (by rfl) (fun K hK => ?_)
      go_simp
      try rw [hw4]
      replace hN4 : MBox w4 w2.heap.size M := by rw [hM]; exact hN4
      have k4 : Keeps wr w4 := fun p hp => (hf4 _ (by omega)).trans (kp_ p hp)
      have bb := hb4 _ _ b_ l2
      refine hK _ _ ⟨fun _ _ => k4, ?_⟩
      clear hK K hw4 z0 z1 z2 z3 z4 z5 z6 z7 z8 z9 z10 z11 zf hN hb4 hf4 b_ kp_
      try simp only [Act.put, List.setIfInBounds_toArray, List.set_cons_zero, List.set_cons_succ]
      refine doneE (by kernel_rfl) ?_ _
      have HM := Lib.hid hM
      clear hM
      have hOlt : ∀ k, (Value.slice Ao i co).ownBlock = some k → w.heap.size ≤ k := fun k hk => (hO.own.lt k hk).1
      have hO4 := hO.on bb
      have hb5 := hb.trans (bb.mono lw)
      have hd4 : MRows w4 0 w.heap.size d := (hri.below (Below.refl w.heap.size wr) (Nat.le_refl _)).below (show Below w.heap.size wr w4 from bb.mono lw) (Nat.le_refl _)
      have RM : MRows w4 0 w.heap.size M := by rw [HM.out]; exact ⟨Ints.nil_ .., Ints.nil_ .., hd4.C, hd4.A⟩
      clear hO hb bb hri k4
      obtain ⟨⟨k0, k1, k2, k3, k4, k5, k6, k7, k8, k9, k10, k11⟩, kf⟩ := MBox.cells hN4
      obtain ⟨q, hq⟩ : ∃ q, chkM M = q := ⟨_, rfl⟩
      have HQ := Lib.hid hq
      clear hq
      go_wp2_with fail
      refine (MCheck_any w4 M (RM.more (Nat.le_refl _) (by omega)) q HQ.out).mono ?_
      rintro e w5 ⟨rfl, hB⟩
      clear k0 k1 k2 k3 k4 k5 k6 k7 k8 k9 k10 k11 kf
      have l5 := hB.size
      have hO5 := hO4.on hB
      have hb6 := hb5.trans (hB.mono (by omega))
      have hd5 := hd4.below hB (by omega)
      have RM5 := RM.below hB (by omega)
      have hN5 := box_on hN4 hB (lt_of_heap hN4)
      clear hB hO4 hb5 hd4 RM hN4
      obtain ⟨⟨k0, k1, k2, k3, k4, k5, k6, k7, k8, k9, k10, k11⟩, kf⟩ := MBox.cells hN5
      by_cases hm : M.may
      rotate_left
      · have hq0 : q = 8 := HQ.out.symm.trans (chk_not hm)
        subst hq0
        go_wp2
        go_ret
        exact ⟨rfl, hb6⟩
      · have hq0 : q = 0 := HQ.out.symm.trans (chk_may hm)
        subst hq0
        generalize hw6 : w5.alloc (.cells #[.bool M.S.s, .slice M.S.A M.S.n M.S.c, .int .i64 M.S.e, .bool M.W.s, .slice M.W.A M.W.n M.W.c, .int .i64 M.W.e, .bool M.C.s, .slice M.C.A M.C.n M.C.c, .int .i64 M.C.e, .bool M.A.s, .slice M.A.A M.A.n M.A.c, .int .i64 M.A.e] 39) = w6
        have hB6 : Below w5.heap.size w5 w6 := by rw [← hw6]; exact (Below.refl _ _).alloc (Nat.le_refl _) _
        have hraw := raw_oneM w5 M hw6
        have l6 : w5.heap.size < w6.heap.size := by rw [← hw6]; simp
        have hO6 := hO5.on hB6
        have hb7 := hb6.trans (hB6.mono (by omega))
        have RM6 := RM5.below hB6 (by omega)
        clear hO5 hb6 RM5
        go_wp2_with (first
          | (at_builtin; refine wpList_append_raw _ rfl (.tmp 105) (.tmp 107) 36 rfl w.heap.size 39 i0 _ 12 160 Tryd.underlying36 hi0 hz0 hz1 hz2 rfl (by decide) _ _ _ rfl hO6.own _ _ _ 1 1 (cells12 M) rfl hraw (cells12_one M) (by unfold maxLen; omega) (by omega) (by omega) ?_))
        intro A3 c3 w7 hown3 hg3 hob
        have hoff : M.off (Value.slice Ao i co).ownBlock := rows_off RM6 fun k hk => .inr (hOlt k hk)
        have hO7 := hO6.push (RM6.more (Nat.zero_le _) (by omega)) hoff hown3 hg3 hob
        have hb8 := hb7.grown hg3 (by omega) (fun q hq => (hO6.own.lt q hq).1)
        have hInv2 : Hid (Inv 200 (os ++ [M])) := Lib.hid (inv_snoc hInv.out HM.out hd5 hm (by omega) (by omega) (by omega) (by omega))
        clear hO6 hb7 hown3 hg3 hob hoff hraw hOlt hB6 k0 k1 k2 k3 k4 k5 k6 k7 k8 k9 k10 k11 kf
        try clear hw6
        go_wp2
        go_roundw
        case rel => exact ⟨i + 1, _, by first | rfl | (congr 1; omega) | go_num, rfl, by omega, hO7, hb8, hInv2⟩
        case measure => first | (simp [intOf]; done) | (simp [intOf]; omega)
    · skip
      have hin : i = n := by omega
      subst hin
      clear hLr
      obtain ⟨os0, hos0⟩ : ∃ l, l = os := ⟨_, rfl⟩
      have HOS := Lib.hid hos0
      clear hos0
      have HLo : Hid (os.length = i) := Lib.hid hO.len
      have HL0 : Hid (os.length = i) := Lib.hid hO.len
      have hLo := hO.lms
      have hOlt : ∀ k, (Value.slice Ao i co).ownBlock = some k → k < wr.heap.size := fun k hk => (hO.own.lt k hk).2
      have hoffs : Hid (∀ m ∈ os, ∀ k, wr.heap.size ≤ k → m.off (some k)) := Lib.hid fun m hm k hk => rows_off (hO.rows m hm) fun k' e => by
        injection e with e
        exact .inr (by omega)
      obtain ⟨w2, hw2e⟩ : ∃ W : World, W = wr := ⟨_, rfl⟩
      subst hw2e
      obtain ⟨R, hsum, hRv⟩ := inv_sum (by decide) (by rw [HLo.out]; omega) hInv.out
      have HS := Lib.hid hsum
      have HRV := Lib.hid hRv
      obtain ⟨cN, aN, fc, hfar, hfc, mc, ma⟩ := far_start hInv.out (by rw [HLo.out]; omega)
      have HF := Lib.hid hfar
      have HFC := Lib.hid hfc
      have MC_ := Lib.hid mc
      have MA_ := Lib.hid ma
      clear hsum hRv hfar hfc mc ma
      go_wp2_with fail
      refine (MSum_any w2 _ i co os hLo (by omega) (hT.below hb hT.lt) R 0 HS.out).mono ?_
      rintro e w3 ⟨x, rfl, hB, hx, Rx⟩
      replace hx := Lib.hid hx
      have l3 := hB.size
      replace hO := hO.on hB
      replace hb := hb.trans (hB.mono lw)
      clear hB hLo
      obtain ⟨w4, hw4, hX, hB4, l4⟩ := alloc_m w3 x
      replace hO := hO.on hB4
      replace hb := hb.trans (hB4.mono (by omega))
      replace Rx : MRows w4 w2.heap.size w3.heap.size x := Rx.below hB4 (Nat.le_refl _)
      clear hB4
      go_wp2_with fail
      try clear hw4
      refine (Far_num w4 _ i co os hO.lms (by omega) (hT.below hb hT.lt) cN aN fc HF.out).mono ?_
      rintro e w5 ⟨X, Y, rfl, hB, hIX, hIY, B1, lb1, lb2, IX, IY⟩
      replace hIX := Lib.hid hIX
      replace hIY := Lib.hid hIY
      have l5 := hB.size
      replace hO := hO.on hB
      replace hb := hb.trans (hB.mono (by omega))
      replace Rx := Rx.below hB (by omega)
      replace hX := box_on hX hB (lt_of_heap hX)
      clear hB
      generalize hw6 : (w5.alloc (.cells #[.bool X.s, .slice X.A X.n X.c, .int .i64 X.e] 24)).alloc (.cells #[.bool Y.s, .slice Y.A Y.n Y.c, .int .i64 Y.e] 24) = w6
      obtain ⟨hC, hA, hB6, lo6, hi6⟩ := boxes2 w5 _ _ hw6
      replace hC : DBox w6 w5.heap.size X := hC
      replace hA : DBox w6 (w5.heap.size + 1) Y := hA
      replace hB6 : Below w5.heap.size w5 w6 := hB6
      replace hO := hO.on hB6
      replace hb := hb.trans (hB6.mono (by omega))
      replace Rx := Rx.below hB6 (by omega)
      replace hX := box_on hX hB6 (lt_of_heap hX)
      replace IX := IX.below hB6 (by omega)
      replace IY := IY.below hB6 (by omega)
      clear hB6
      have hNev : Hid (NevI i 0 os os cN aN X Y w5.heap.size (w5.heap.size + 1) (Value.slice Ao i co).ownBlock) := Lib.hid ⟨hInv.out, fun _ _ => rfl, fun h0 => by
          rcases HFC.out with h | h
          · have := h.1
            rw [HLo.out] at this
            omega
          · rw [HF.out, h.2], ⟨MC_.out, MA_.out, hIX.out, hIY.out⟩, fun m hm => ?offs, ⟨dv_off IX (.inr (by omega)), dv_off IX (.inr (by omega)), dv_off IY (.inr (by omega)), dv_off IY (.inr (by omega))⟩, ⟨dv_offO IX fun k hk => .inl (by have := hOlt k hk; omega), dv_offO IY fun k hk => .inl (by have := hOlt k hk; omega)⟩⟩
      case offs => exact ⟨hoffs.out m hm _ (by omega), hoffs.out m hm _ (by omega)⟩
      clear hoffs
      replace IX := IX.more (lo' := 0) (hi' := w6.heap.size) (Nat.zero_le _) (by omega)
      replace IY := IY.more (lo' := 0) (hi' := w6.heap.size) (Nat.zero_le _) (by omega)
      have o1 : w2.heap.size ≤ w3.heap.size := by omega
      have o2 : w3.heap.size < w5.heap.size := by have := lt_of_heap hX; omega
      have o3 : w5.heap.size + 1 < w6.heap.size := by omega
      have o4 : w3.heap.size ≤ w3.heap.size := by omega
      clear hInv hIX hIY lo6 hi6
      go_wp2
      go_loopw [6, 16, 17, 18, 19, 20, 21, 22, 23, 24, 25, 26, 27, 28, 29, 30] (fun ev jv _ _ _ _ _ _ _ _ _ _ _ _ _ _ wr => ∃ (j : Nat) (os : List Mv) (c a : Dn) (X Y : Dv), jv = .int .i64 j ∧ ev = .bool false ∧ j ≤ n1 ∧ OwnM wr w.heap.size (.slice Ao i co) i os ∧ Below w.heap.size w wr ∧ w6.heap.size ≤ wr.heap.size ∧ (MBox wr w3.heap.size x ∧ MRows wr w2.heap.size w3.heap.size x) ∧ (DBox wr w5.heap.size X ∧ DBox wr (w5.heap.size + 1) Y) ∧ (Ints wr 0 wr.heap.size .u32 X.A X.n X.xs ∧ Ints wr 0 wr.heap.size .u32 Y.A Y.n Y.xs) ∧ Hid (NevI i j os0 os c a X Y w5.heap.size (w5.heap.size + 1) (Value.slice Ao i co).ownBlock)) (fun _ jv _ _ _ _ _ _ _ _ _ _ _ _ _ _ _ => n1 - (intOf jv).toNat)
      case atStart => exact ⟨0, os, cN, aN, X, Y, rfl, rfl, Nat.zero_le _, hO, hb, Nat.le_refl _, ⟨hX, Rx⟩, ⟨hC, hA⟩, ⟨IX, IY⟩, by rw [HOS.out]; exact hNev⟩
      case round =>
        clear hO hb hX Rx hC hA IX IY hNev HF
        obtain ⟨j, os, c, a, X, Y, rfl, rfl, hj1, hO, hb, lw6, hXR, hCA, hII, hI⟩ := hrel
        have HLo : Hid (os.length = i) := Lib.hid hO.len
        have lw2 := hb.size
        obtain ⟨hX, Rx⟩ := hXR
        obtain ⟨hC, hA⟩ := hCA
        obtain ⟨IX, IY⟩ := hII
        refine nev_round _ _ _ _ _ _ _ _ _ _ _ _ _ _ _ _ _ _ _ _ _ _ _ _ _ _ _ _ _ _ _ _ _ _ _ _ _ _ _ _ _ _ _ _ _ _ _ _ _ _ _ _ _ _ _ _ _ _ _ _ _ _ _ _ _ _ _ _ _ _ _ _ _ _ _ _ _ _ _ _ _ _ _ _ _ _ _ _ _ _ _ _ _ _ _ _ _ _ _ _ _ _ _ _ _ _ _ _ _ _ _ _ _ _ _ _ _ _ _ _ _ _ _ _ _ _ _ _ _ _ _ _ _ _ _ _ _ _ _ _ _ _ _ _ _ _ _ _ _ _ _ _ _ _ _ _ _ _ _ _ _ _ _ _ _ _ _ _ _ _ _ _ _ _ _ _ _ _ _ _ _ _ _ _ _ _ _ _ _ _ _ _ _ _ _ _ _ _ _ _ _ _ _ _ _ _ _ _ _ _ _ _ _ _ _ _ _ _ _ _ _ _ _ _ _ _ _ _ _ _ _ _ _ _ _ _ _ _ _ _ _ _ _ _ _ _ _ _ _ _ _ _ _ _ _ _ (fun e h => ⟨e.symm.trans h.1, h.2⟩) w hT A1 A2 Ao n1 c1 n2 c2 i co xs1 xs2 hx1 hx2 hn8 hn40 w2.heap.size w3.heap.size w6.heap.size w3.heap.size w5.heap.size lw (by omega) (by omega) o2 o3 hOlt x os0 j os c a X Y wr hj1 hO hb lw6 ⟨hX, Rx⟩ ⟨hC, hA⟩ ⟨IX, IY⟩ hI.out ?_ ?_
        · intro t17 t18 t19 t20 t21 t22 t23 t24 t25 t26 t27 t28 t29 t30 t120 t121 t122 t123 t124 t125 t126 t127 t128 t129 t130 t131 t132 t133 t134 t135 t136 t137 t138 t139 t140 t141 t142 t143 t144 t145 t146 t147 t148 t149 t150 t151 t152 t153 t154 t155 t156 t157 t158 t159 t160 t161 t162 t163 t164 t165 t166 t167 t168 t169 t170 t171 t172 t173 t174 t175 t176 t177 t178 t179 t180 t181 t182 t183 t184 t185 t186 t187 t188 t189 t190 t191 t192 t193 t194 t195 t196 t197 t198 t199 t200 t201 t202 t203 t204 t205 t206 t207 t208 t209 t210 t211 t212 t213 t214 t215 t216 t217 t218 t219 t220 t221 t222 t223 t224 t225 t226 t227 t228 t229 t230 t231 t232 t233 t234
          try simp only [Exit.then, Exit.inBlock, if_true]
          obtain ⟨R2, hs2, hR2⟩ := inv_sum (t := 200 + j) (by omega) (by rw [HLo.out]; omega) hI.out.1
          have HS2 := Lib.hid hs2
          have hRR := Lib.hid (sum_same HRV.out (by rw [HOS.out] at *; exact hR2) (fun x hx => (by rw [← HOS.out]; exact (hI.out.2.1 x hx).symm)))
          clear hs2 hR2
          go_wp2_with fail
          refine (MSum_any wr _ i co os hO.lms (by omega) (hT.below hb hT.lt) R2 0 HS2.out).mono ?_
          rintro e v1 ⟨y, rfl, hB, hy, Ry⟩
          replace hy := Lib.hid hy
          have lv1 := hB.size
          replace hb := hb.trans (hB.mono (by omega))
          replace Rx := Rx.below hB (by omega)
          replace hX := box_on hX hB (lt_of_heap hX)
          clear hB hO hC hA IX IY
          obtain ⟨v2, hv2, hY, hB2, lv2⟩ := alloc_m v1 y
          replace hb := hb.trans (hB2.mono (by omega))
          replace Rx := Rx.below hB2 (by omega)
          replace hX := box_on hX hB2 (lt_of_heap hX)
          replace Ry : MRows v2 wr.heap.size v1.heap.size y := Ry.below hB2 (Nat.le_refl _)
          clear hB2
          obtain ⟨⟨k0, k1, k2, k3, k4, k5, k6, k7, k8, k9, k10, k11⟩, kf⟩ := MBox.cells hX
          obtain ⟨⟨y0, y1, y2, y3, y4, y5, y6, y7, y8, y9, y10, y11⟩, yf⟩ := MBox.cells hY
          go_wp2_with fail
          try clear hv2
          refine (MSame_any v2 x y (Rx.more (Nat.zero_le _) (by omega)) (Ry.more (Nat.zero_le _) (by omega)) true (hx.out.same (hy.out.of_eq fun z hz => (hRR.out z hz).symm))).mono ?_
          rintro e v3 ⟨rfl, hB⟩
          replace hb := hb.trans (hB.mono (by omega))
          clear k0 k1 k2 k3 k4 k5 k6 k7 k8 k9 k10 k11 kf y0 y1 y2 y3 y4 y5 y6 y7 y8 y9 y10 y11 yf hB hX hY
          rcases HFC.out with ⟨h0, rfl⟩ | ⟨h0, rfl⟩
          · have hn0 : ¬ 0 < i := by have := HL0.out; omega
            go_wp2
            go_ret
            exact ⟨rfl, hb⟩
          · have hn0 : 0 < i := by have := HL0.out; omega
            go_wp2
            go_ret
            exact ⟨rfl, hb⟩
        · intro os' c' a' X' Y' t17 t18 t19 t20 t21 t22 t23 t24 t25 t26 t27 t28 t29 t30 t120 t121 t122 t123 t124 t125 t126 t127 t128 t129 t130 t131 t132 t133 t134 t135 t136 t137 t138 t139 t140 t141 t142 t143 t144 t145 t146 t147 t148 t149 t150 t151 t152 t153 t154 t155 t156 t157 t158 t159 t160 t161 t162 t163 t164 t165 t166 t167 t168 t169 t170 t171 t172 t173 t174 t175 t176 t177 t178 t179 t180 t181 t182 t183 t184 t185 t186 t187 t188 t189 t190 t191 t192 t193 t194 t195 t196 t197 t198 t199 t200 t201 t202 t203 t204 t205 t206 t207 t208 t209 t210 t211 t212 t213 t214 t215 t216 t217 t218 t219 t220 t221 t222 t223 t224 t225 t226 t227 t228 t229 t230 t231 t232 t233 t234 w' hj' hO' hb' lw' hXR' hCA' hII' hN'
          simp only [Exit.then]
          refine ⟨⟨_, _, _, _, _, _, _, _, _, _, _, _, _, _, _, _, _, _, _, _, _, _, _, _, _, _, _, _, _, _, _, _, _, _, _, _, _, _, _, _, _, _, _, _, _, _, _, _, _, _, _, _, _, _, _, _, _, _, _, _, _, _, _, _, _, _, _, _, _, _, _, _, _, _, _, _, _, _, _, _, _, _, _, _, _, _, _, _, _, _, _, _, _, _, _, _, _, _, _, _, _, _, _, _, _, _, _, _, _, _, _, _, _, _, _, _, _, _, _, _, _, _, _, _, _, _, _, _, _, _, _, ⟨j + 1, os', c', a', X', Y', rfl, rfl, hj', hO', hb', lw', hXR', hCA', hII', Lib.hid hN'⟩, rfl⟩, ?_⟩
          first | (simp [intOf]; done) | (simp [intOf]; omega)
end Ma
end Go.Proofs.YtlbkepiflhchdaaDoor
namespace Go.Proofs.YtlbkepiflhchdaaDoor
open Go.ChangeShapes Go.WideShapes Go.ChangeAt Go.RowKit
section
variable {H : Type} {enc : TypeId × Value → H} {P : Program} {W W' : World}
theorem trodAll_below (hl : laidOutB P = true) (hb : Below W.heap.size W W') : ∀ (ts : List TypeId) (vs : List Value) (ds : List (DataW H)) (ps : List MemPlace),
    DataW.TrodAll enc P W 0 (fun _ => true) true ts vs ds ps → (∀ t ∈ ts, P.readableRec t = true ∧ t < P.types.size) → (∀ x ∈ ps, x.block < W.heap.size) →
    DataW.TrodAll enc P W' 0 (fun b => decide (b < W.heap.size)) true ts vs ds ps
  | [], vs, ds, ps, h, _, _ => by
    obtain ⟨rfl, rfl, rfl⟩ := trodAll_nil h
    exact rfl
  | t :: ts, vs, ds, ps, h, hr, hlt => by
    obtain ⟨v, vs', d, ds', p, q, rfl, rfl, rfl, h1, h2⟩ := trodAll_cons h
    obtain ⟨r1, r2⟩ := hr t (List.mem_cons_self ..)
    exact ⟨p, q, Below.trod hl r1 r2 h1 hb fun x hx => hlt x (List.mem_append_left _ hx), trodAll_below hl hb ts vs' ds' q h2 (fun t ht => hr t (List.mem_cons_of_mem _ ht)) fun x hx => hlt x (List.mem_append_right _ hx), rfl⟩
/-- A law that answers true and leaves what was there as it was. -/
theorem law_post {f : Func} {s : ChangeSpec} {args : Array Value} {ds gs : List (DataW H)} {before : List MemPlace} (hW : DataW.Whole enc P f.params.toList s.vars false W args.toList ds gs before)
    (hv : s.vars = []) (hl : laidOutB P = true) (hr : f.params.toList.all (fun t => P.readableRec t && decide (t < P.types.size)) = true) {tb : TypeId} (hres : f.resultTypes = #[tb]) (htb : P.underlying tb = some .bool)
    (h1 : (s.fn H (ds ++ gs)).results = [.lit (.bool true)]) (h2 : (s.fn H (ds ++ gs)).args = ds) (h3 : (s.fn H (ds ++ gs)).vars = []) (hb : Below W.heap.size W W') : s.post enc P f false true false false W args (.bool true) W' := by
  have hW' := hW
  obtain ⟨p, q, hA, hV, rfl, hfz, hnd⟩ := hW
  have hr' : ∀ t ∈ f.params.toList, P.readableRec t = true ∧ t < P.types.size := fun t ht => by
    have := List.all_eq_true.1 hr t ht
    simpa using this
  refine ⟨ds, gs, _, [], p, [], hW', ?_, ?_, ?_, hb.frame _, fun h => by cases h⟩
  · rw [h1, hres]
    exact trodAll_mk1 (shut_bool htb true)
  · rw [h2]
    exact trodAll_below hl hb _ _ _ _ hA hr' fun x hx => hW'.lt x (List.mem_append_left _ hx)
  · rw [h3, hv]
    rfl
/-- A slice of whole numbers among the arguments. -/
theorem ints_open {t e : TypeId} {k : IntKind} {r : Reach} {b0 : Nat} {v : Value} {d : DataW H} {p : List MemPlace} (ht : P.underlying t = some (.slice e)) (he : P.underlying e = some (.int k)) (hc : P.cellsOf e = 1)
    (hval : Value.okWide P W r b0 t v) (h : DataW.Trod enc P W 0 (fun _ => true) true t v d p) (hfz : ∀ b off, MemPlace.cell b off ∈ p → W.frozen? ⟨b, off, none⟩ = false) (hlt : ∀ x ∈ p, x.block < W.heap.size) :
    ∃ A n c xs, v = .slice A n c ∧ n ≤ c ∧ Ints W 0 W.heap.size k A n xs := by
  obtain ⟨A, n, c, rfl⟩ := okWide_slice ht hval
  obtain ⟨fuel, hf⟩ := h
  rcases open_ints ht he hc hf with ⟨hcs, hx⟩ | ⟨a, len, cap, zs, hcs, _, hl, hm, hz, hx, hcell, hwz⟩
  · simp [Value.cells] at hcs
    obtain ⟨rfl, rfl, rfl⟩ := hcs
    exact ⟨none, 0, 0, [], rfl, Nat.le_refl _, Ints.nil_ ..⟩
  · simp [Value.cells] at hcs
    obtain ⟨rfl, rfl, rfl⟩ := hcs
    simp only [if_true] at hz
    refine ⟨some a, n, c, zs.take n, rfl, hl, by simp; omega, fun x hx => ?_, by unfold maxLen at hm; omega, fun h0 => ?_⟩
    · have := hwz x (List.mem_of_mem_take hx)
      simpa [Lit.wf] using this
    · obtain ⟨b, off, spot⟩ := a
      have hspot : spot = none := by simpa [Addr.add] using World.cell?_spot (hcell 0 (by omega))
      subst hspot
      simp only [Prod.mk.injEq] at hx
      obtain ⟨_, rfl⟩ := hx
      have hmem : ∀ j, j < n → MemPlace.cell b (off + j) ∈ MemPlace.row ⟨b, off, none⟩ zs.length := fun j hj => MemPlace.mem_row.2 ⟨j, by omega, rfl⟩
      refine ⟨b, off, rfl, Nat.zero_le _, hlt _ (hmem 0 h0), fun j hj => ⟨?_, hfz _ _ (hmem j hj)⟩⟩
      have := hcell j (by omega)
      rw [add_plain] at this
      rw [this, List.getElem?_take, if_pos hj]
      simp [List.getD]
end
end Go.Proofs.YtlbkepiflhchdaaDoor
namespace Go.Proofs.YtlbkepiflhchdaaDoor
open Go.ChangeShapes Go.WideShapes Go.ChangeAt Go.RowKit Go.Joins Go.Deep
section
variable {H : Type} {enc : TypeId × Value → H} {P : Program} {W W' : World}
theorem ints_trod {t e : TypeId} {k : IntKind} {fuel : Nat} {v : Value} {x : DataW H × List MemPlace} (ht : P.underlying t = some (.slice e)) (he : P.underlying e = some (.int k)) (hc : P.cellsOf e = 1)
    (h : DataW.trod enc P W 0 (fun _ => true) true fuel t [v] = some x) (hfz : ∀ b off, MemPlace.cell b off ∈ x.2 → W.frozen? ⟨b, off, none⟩ = false) (hlt : ∀ q ∈ x.2, q.block < W.heap.size) :
    ∃ A n c xs, v = .slice A n c ∧ n ≤ c ∧ Ints W 0 W.heap.size k A n xs := by
  rcases open_ints ht he hc h with ⟨hcs, hx⟩ | ⟨a, len, cap, zs, hcs, _, hl, hm, hz, hx, hcell, hwz⟩
  · injection hcs with hcs
    exact ⟨none, 0, 0, [], hcs, Nat.le_refl _, Ints.nil_ ..⟩
  · injection hcs with hcs
    simp only [if_true] at hz
    refine ⟨some a, len, cap, zs.take len, hcs, hl, by simp; omega, fun y hy => ?_, by unfold maxLen at hm; omega, fun h0 => ?_⟩
    · have := hwz y (List.mem_of_mem_take hy)
      simpa [Lit.wf] using this
    · obtain ⟨b, off, spot⟩ := a
      have hspot : spot = none := by simpa [Addr.add] using World.cell?_spot (hcell 0 (by omega))
      subst hspot
      have hmem : ∀ j, j < len → MemPlace.cell b (off + j) ∈ x.2 := fun j hj => by
        rw [hx]
        exact MemPlace.mem_row.2 ⟨j, by omega, rfl⟩
      refine ⟨b, off, rfl, Nat.zero_le _, hlt _ (hmem 0 h0), fun j hj => ⟨?_, hfz _ _ (hmem j hj)⟩⟩
      have := hcell j (by omega)
      rw [add_plain] at this
      rw [this, List.getElem?_take, if_pos hj]
      simp [List.getD]
end
end Go.Proofs.YtlbkepiflhchdaaDoor
namespace Go.Proofs.YtlbkepiflhchdaaDoor
open Go.ChangeShapes Go.WideShapes Go.ChangeAt Go.RowKit Go.Joins Go.Deep
section
variable {H : Type} {enc : TypeId × Value → H} {P : Program} {W W' : World}
theorem dv_trod {td e : TypeId} {k0 k1 k2 : Field} {fuel : Nat} {c0 c1 c2 : Value} {x : DataW H × List MemPlace} (hs : P.underlying td = some (.struct #[k0, k1, k2])) (hone : oneCellFields P #[k0, k1, k2] = true)
    (v0 : P.underlying k0.type = some .bool) (ht : P.underlying k1.type = some (.slice e)) (he : P.underlying e = some (.int .u32)) (hc : P.cellsOf e = 1) (v2 : P.underlying k2.type = some (.int .i64))
    (h : DataW.trod enc P W 0 (fun _ => true) true fuel td [c0, c1, c2] = some x) (hfz : ∀ b off, MemPlace.cell b off ∈ x.2 → W.frozen? ⟨b, off, none⟩ = false) (hlt : ∀ q ∈ x.2, q.block < W.heap.size) :
    ∃ d : Ma.Dv, c0 = .bool d.s ∧ c1 = .slice d.A d.n d.c ∧ c2 = .int .i64 d.e ∧ d.n ≤ d.c ∧ d.Row W 0 W.heap.size := by
  obtain ⟨y0, y1, y2, n, hx, _, h0, h1, h2⟩ := trod_struct3 hs h
  obtain ⟨o0, q0⟩ := hone_of hone 0 k0 rfl
  obtain ⟨o1, q1⟩ := hone_of hone 1 k1 rfl
  obtain ⟨o2, q2⟩ := hone_of hone 2 k2 rfl
  simp only [o0, q0, o1, q1, o2, q2, List.drop_zero, List.take_succ_cons, List.take_zero, List.drop_succ_cons] at h0 h1 h2
  obtain ⟨s, e0, _⟩ := DataW.trod_bool v0 h0
  obtain ⟨z, e2, _, z2⟩ := DataW.trod_int v2 h2
  injection e0 with e0
  injection e2 with e2
  have hx2 : x.2 = y0.2 ++ (y1.2 ++ y2.2) := by rw [hx]
  obtain ⟨A, n', c, xs, e1, hc', hI⟩ := ints_trod ht he hc h1 (fun b off hm => hfz b off (by simp [hx2, hm])) (fun q hq => hlt q (by simp [hx2, hq]))
  exact ⟨⟨s, A, n', c, z, xs⟩, e0, e1, e2, hc', hI⟩
end
end Go.Proofs.YtlbkepiflhchdaaDoor
namespace Go.Proofs.YtlbkepiflhchdaaDoor
open Go.ChangeShapes Go.WideShapes Go.ChangeAt Go.RowKit Go.Joins Go.Deep
section
variable {H : Type} {enc : TypeId × Value → H} {P : Program} {W W' : World}
theorem mass_trod {t td e : TypeId} {f0 f1 f2 f3 k0 k1 k2 : Field} {fuel : Nat} {cs : List Value} {x : DataW H × List MemPlace} (hs : P.underlying t = some (.struct #[f0, f1, f2, f3]))
    (hoff : (f0.offset, f1.offset, f2.offset, f3.offset) = (0, 3, 6, 9)) (hty : (f0.type, f1.type, f2.type, f3.type) = (td, td, td, td)) (hC : P.cellsOf t = 12)
    (hd : P.underlying td = some (.struct #[k0, k1, k2])) (hone : oneCellFields P #[k0, k1, k2] = true) (hC3 : P.cellsOf td = 3)
    (v0 : P.underlying k0.type = some .bool) (ht : P.underlying k1.type = some (.slice e)) (he : P.underlying e = some (.int .u32)) (hc : P.cellsOf e = 1) (v2 : P.underlying k2.type = some (.int .i64))
    (h : DataW.trod enc P W 0 (fun _ => true) true fuel t cs = some x) (hfz : ∀ b off, MemPlace.cell b off ∈ x.2 → W.frozen? ⟨b, off, none⟩ = false) (hlt : ∀ q ∈ x.2, q.block < W.heap.size) :
    ∃ m : Ma.Mv, cs = [.bool m.S.s, .slice m.S.A m.S.n m.S.c, .int .i64 m.S.e, .bool m.W.s, .slice m.W.A m.W.n m.W.c, .int .i64 m.W.e, .bool m.C.s, .slice m.C.A m.C.n m.C.c, .int .i64 m.C.e, .bool m.A.s, .slice m.A.A m.A.n m.A.c, .int .i64 m.A.e] ∧
      Ma.MRows W 0 W.heap.size m := by
  simp only [Prod.mk.injEq] at hoff hty
  obtain ⟨a0, a1, a2, a3⟩ := hoff
  obtain ⟨t0, t1, t2, t3⟩ := hty
  obtain ⟨y0, y1, y2, y3, n, hx, hl, h0, h1, h2, h3⟩ := trod_struct4 hs h
  match cs, hl.trans hC with
  | [c0, c1, c2, c3, c4, c5, c6, c7, c8, c9, c10, c11], _ =>
    have hx2 : x.2 = y0.2 ++ (y1.2 ++ (y2.2 ++ y3.2)) := by rw [hx]
    simp only [a0, a1, a2, a3, t0, t1, t2, t3, hC3, List.drop_zero, List.take_succ_cons, List.take_zero, List.drop_succ_cons] at h0 h1 h2 h3
    obtain ⟨d0, rfl, rfl, rfl, _, r0⟩ := dv_trod hd hone v0 ht he hc v2 h0 (fun b off hm => hfz b off (by simp [hx2, hm])) (fun q hq => hlt q (by simp [hx2, hq]))
    obtain ⟨d1, rfl, rfl, rfl, _, r1⟩ := dv_trod hd hone v0 ht he hc v2 h1 (fun b off hm => hfz b off (by simp [hx2, hm])) (fun q hq => hlt q (by simp [hx2, hq]))
    obtain ⟨d2, rfl, rfl, rfl, _, r2⟩ := dv_trod hd hone v0 ht he hc v2 h2 (fun b off hm => hfz b off (by simp [hx2, hm])) (fun q hq => hlt q (by simp [hx2, hq]))
    obtain ⟨d3, rfl, rfl, rfl, _, r3⟩ := dv_trod hd hone v0 ht he hc v2 h3 (fun b off hm => hfz b off (by simp [hx2, hm])) (fun q hq => hlt q (by simp [hx2, hq]))
    exact ⟨⟨d0, d1, d2, d3⟩, rfl, ⟨r0, r1, r2, r3⟩⟩
instance : Inhabited Ma.Mv := ⟨⟨⟨false, none, 0, 0, 0, []⟩, ⟨false, none, 0, 0, 0, []⟩, ⟨false, none, 0, 0, 0, []⟩, ⟨false, none, 0, 0, 0, []⟩⟩⟩
/-- A list of masses that reads as data. -/
theorem masses_trod {T t td e : TypeId} {f0 f1 f2 f3 k0 k1 k2 : Field} {fuel : Nat} {v : Value} {x : DataW H × List MemPlace} (hT : P.underlying T = some (.slice t)) (hs : P.underlying t = some (.struct #[f0, f1, f2, f3]))
    (hoff : (f0.offset, f1.offset, f2.offset, f3.offset) = (0, 3, 6, 9)) (hty : (f0.type, f1.type, f2.type, f3.type) = (td, td, td, td)) (hC : P.cellsOf t = 12)
    (hd : P.underlying td = some (.struct #[k0, k1, k2])) (hone : oneCellFields P #[k0, k1, k2] = true) (hC3 : P.cellsOf td = 3)
    (v0 : P.underlying k0.type = some .bool) (ht : P.underlying k1.type = some (.slice e)) (he : P.underlying e = some (.int .u32)) (hc : P.cellsOf e = 1) (v2 : P.underlying k2.type = some (.int .i64))
    (h : DataW.trod enc P W 0 (fun _ => true) true fuel T [v] = some x) (hfz : ∀ b off, MemPlace.cell b off ∈ x.2 → W.frozen? ⟨b, off, none⟩ = false) (hlt : ∀ q ∈ x.2, q.block < W.heap.size) :
    ∃ A n c ms, v = .slice A n c ∧ n ≤ c ∧ c ≤ maxLen ∧ Ma.LMs W 0 W.heap.size A n ms := by
  rcases open_slice hT h with ⟨hcs, _⟩ | ⟨a, len, cap, m, k, D, Pl, hcs, _, hl, hm, hmm, hx, hi⟩
  · injection hcs with hcs
    exact ⟨none, 0, 0, [], hcs, Nat.le_refl _, by unfold maxLen; omega, ⟨rfl, by decide, fun h0 => absurd h0 (Nat.lt_irrefl 0), fun j hj => absurd hj (Nat.not_lt_zero _)⟩⟩
  · injection hcs with hcs
    simp only [if_true] at hmm
    subst hmm
    have hx2 : x.2 = MemPlace.row a (m * P.cellsOf t) ++ (List.range m).flatMap Pl := by rw [hx]
    have hmem : ∀ i, i < m → ∀ q ∈ Pl i, q ∈ x.2 := fun i hi' q hq => by
      rw [hx2]
      exact List.mem_append_right _ (List.mem_flatMap.2 ⟨i, List.mem_range.2 hi', hq⟩)
    have hV : ∀ i, i < m → ∃ q : Ma.Mv, (∀ k, k < 12 → W.cell? ((a.add (i * 12)).add k) = [Value.bool q.S.s, .slice q.S.A q.S.n q.S.c, .int .i64 q.S.e, .bool q.W.s, .slice q.W.A q.W.n q.W.c, .int .i64 q.W.e, .bool q.C.s, .slice q.C.A q.C.n q.C.c, .int .i64 q.C.e, .bool q.A.s, .slice q.A.A q.A.n q.A.c, .int .i64 q.A.e][k]?) ∧ Ma.MRows W 0 W.heap.size q := fun i hi' => by
      obtain ⟨cs', h1, h2⟩ := hi i hi'
      rw [hC] at h1
      obtain ⟨_, _, hcell⟩ := World.cells?_some h1
      obtain ⟨q, e, hq⟩ := mass_trod hs hoff hty hC hd hone hC3 v0 ht he hc v2 h2 (fun b off hm => hfz b off (hmem i hi' _ hm)) (fun q hq => hlt q (hmem i hi' q hq))
      subst e
      exact ⟨q, hcell, hq⟩
    obtain ⟨q, hq⟩ := choose_lt hV
    refine ⟨some a, len, m, (List.range len).map q, hcs, hl, hm, by simp, by unfold maxLen at hm; omega, fun h0 => ?_, fun j hj => ?_⟩
    · obtain ⟨b, off, spot⟩ := a
      have hspot : spot = none := by simpa [Addr.add] using World.cell?_spot ((hq 0 (by omega)).1 0 (by decide))
      subst hspot
      have hb : b < W.heap.size := hlt _ (by
        rw [hx2]
        exact List.mem_append_left _ (MemPlace.mem_row.2 ⟨0, by rw [hC]; omega, rfl⟩) : MemPlace.cell b (off + 0) ∈ x.2)
      refine ⟨b, off, rfl, Nat.zero_le _, hb, fun j hj => ?_⟩
      have hj' : j < len := by simpa using hj
      have e : ((List.range len).map q)[j] = q j := by simp
      rw [e]
      have g := (hq j (by omega)).1
      simp only [add_plain] at g
      exact ⟨g 0 (by decide), g 1 (by decide), g 2 (by decide), g 3 (by decide), g 4 (by decide), g 5 (by decide), g 6 (by decide), g 7 (by decide), g 8 (by decide), g 9 (by decide), g 10 (by decide), g 11 (by decide)⟩
    · have e : ((List.range len).map q)[j] = q j := by simp
      rw [e]
      have hj' : j < len := by simpa using hj
      exact (hq j (by omega)).2
/-- A list of masses among the arguments. -/
theorem masses_open {T t td e : TypeId} {f0 f1 f2 f3 k0 k1 k2 : Field} {r : Reach} {b0 : Nat} {v : Value} {d : DataW H} {p : List MemPlace} (hT : P.underlying T = some (.slice t)) (hs : P.underlying t = some (.struct #[f0, f1, f2, f3]))
    (hoff : (f0.offset, f1.offset, f2.offset, f3.offset) = (0, 3, 6, 9)) (hty : (f0.type, f1.type, f2.type, f3.type) = (td, td, td, td)) (hC : P.cellsOf t = 12)
    (hd : P.underlying td = some (.struct #[k0, k1, k2])) (hone : oneCellFields P #[k0, k1, k2] = true) (hC3 : P.cellsOf td = 3)
    (v0 : P.underlying k0.type = some .bool) (ht : P.underlying k1.type = some (.slice e)) (he : P.underlying e = some (.int .u32)) (hc : P.cellsOf e = 1) (v2 : P.underlying k2.type = some (.int .i64))
    (hval : Value.okWide P W r b0 T v) (h : DataW.Trod enc P W 0 (fun _ => true) true T v d p) (hfz : ∀ b off, MemPlace.cell b off ∈ p → W.frozen? ⟨b, off, none⟩ = false) (hlt : ∀ q ∈ p, q.block < W.heap.size) :
    ∃ A n c ms, v = .slice A n c ∧ n ≤ c ∧ c ≤ maxLen ∧ Ma.LMs W 0 W.heap.size A n ms := by
  obtain ⟨A, n, c, rfl⟩ := okWide_slice hT hval
  obtain ⟨fuel, hf⟩ := h
  exact masses_trod hT hs hoff hty hC hd hone hC3 v0 ht he hc v2 (by simpa [Value.cells] using hf) hfz hlt
end
end Go.Proofs.YtlbkepiflhchdaaDoor
namespace Go.Proofs.YtlbkepiflhchdaaDoor
open Go.ChangeShapes Go.WideShapes Go.ChangeAt Go.RowKit Go.Joins
theorem Tryd.laidOut : laidOutB Tryd.prog = true := by kernel_rfl
namespace Dy
theorem ownKnob_ : ownKnob Tryd.prog.godebug = none := by kernel_rfl
theorem gTab : Tryd.prog.globalNamed "math/bits.deBruijn32tab" = some 0 := by kernel_rfl
theorem tTab : (Tryd.prog.globals[0]?).map (·.type) = some 133 := by kernel_rfl
abbrev laidT : List (String × DataW Unit) := [("math/bits.deBruijn32tab", Rows.laid_math_bits_deBruijn32tab)]
theorem laid_list : (Rows.laid_math_bits_deBruijn32tab : DataW Unit) = .agg (Lib.deBruijn32tab.map fun n => .lit (.int .u8 (n : Nat))) := rfl
/-- The door's own heap meets the condition. -/
theorem door_met (os : Os) (args : Array Value) : laidMetH Tryd.prog laidT ((World.doorLaid Tryd.prog 400 os).forCall (fun _ _ => 0) ⟨#[], args, []⟩).memory :=
  laidMetH_of_parts3 (fuel := 8) (laidMet_of_run' 8 (by kernel_rfl) (by kernel_rfl)) (by kernel_rfl) (by kernel_rfl)
theorem door_shaped (os : Os) (args : Array Value) : ((World.doorLaid Tryd.prog 400 os).forCall (fun _ _ => 0) ⟨#[], args, []⟩).Shaped Tryd.prog := World.shaped_of_RefB (by kernel_rfl) (by kernel_rfl)
theorem tab_cells {H : Type} {enc : TypeId × Value → H} {W : World} {fuel : Nat} {cs : List Value} {d : DataW H} {p : List MemPlace} {held : Bool} {spare : Nat → Bool} (l : List Nat) (hd : d = .agg (l.map fun n => .lit (.int .u8 (n : Nat))))
    (h : DataW.trod enc Tryd.prog W 0 spare held fuel 133 cs = some (d, p)) : ∀ j, j < 32 → cs[j]? = some (.int .u8 (l.getD j 0)) := by
  intro j hj
  obtain ⟨xs, m1, rfl, hx1, hlen, hn3, hel⟩ := DataW.trod_array Tryd.underlying133 h
  have c3 : Tryd.prog.cellsOf 5 = 1 := by kernel_rfl
  have h0 := hel j hj
  rw [c3] at h0
  have hxj : j < xs.length := by omega
  rw [List.getElem?_eq_getElem hxj] at h0
  obtain ⟨k, e1, e2, _⟩ := DataW.trod_int Tryd.underlying5 h0
  simp only [Prod.mk.injEq] at hx1
  rw [hd] at hx1
  simp only [DataW.agg.injEq] at hx1
  have hmap := congrArg (fun t => t[j]?) hx1.1
  simp only [List.getElem?_map] at hmap
  rw [List.getElem?_eq_getElem hxj] at hmap
  simp only [Option.map_some, e2] at hmap
  cases hlj : l[j]? with
  | none => rw [hlj] at hmap; cases hmap
  | some v =>
    rw [hlj] at hmap
    simp only [Option.map_some, Option.some.injEq, DataW.lit.injEq, Lit.int.injEq, true_and] at hmap
    have hg : l.getD j 0 = v := by simp [List.getD, hlj]
    rw [hg, hmap]
    have := congrArg (fun t => t[0]?) e1
    simpa using this
/-- What the condition gives a walk. -/
theorem tab_of_laid {W : World} (h : laidMetH Tryd.prog laidT W) : Tab W := by
  rw [MakeChecks.laidMetH_plain _ _ _ (by kernel_rfl)] at h
  obtain ⟨ps, ⟨g0, t0, cs0, f0, p0, q0, hg0, ht0, hv0, hd0, _, _⟩, _, _⟩ := h
  obtain rfl := Option.some.inj (gTab.symm.trans hg0)
  obtain rfl := Option.some.inj (tTab.symm.trans ht0)
  refine ⟨fun j hj => ?_⟩
  have h1 := tab_cells Lib.deBruijn32tab laid_list hd0 j hj
  have h2 := World.var?_cell hg0 hv0 j
  rw [h2]
  simpa using h1
end Dy
end Go.Proofs.YtlbkepiflhchdaaDoor
