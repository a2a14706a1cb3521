/- PushKeeps: a round of its second loop (printed by a program of mine). -/
/- The law PushKeeps: a walk (printed by a program of mine). -/
import Derived.Test.YtbbnbgllgomolaaDoorBt17
import Derived.Test.YtbbnbgllgomolaaDoorBt19
import Derived.Test.YtbbnbgllgomolaaDoorBt14
import Derived.Test.YtbbnbgllgomolaaDoorBt16
import Derived.Test.YtbbnbgllgomolaaDoorBt18
import Derived.Test.YtbbnbgllgomolaaDoorBt13
import Derived.Test.YtbbnbgllgomolaaDoorBt12
import Derived.Test.YtbbnbgllgomolaaDoorBt09
import Derived.Test.YtbbnbgllgomolaaDoorBt08
import Derived.Test.YtbbnbgllgomolaaDoorBt07
import Derived.Test.YtbbnbgllgomolaaDoorBt15
import Derived.Test.YtbbnbgllgomolaaDoorBt03
namespace Go.Proofs.YtbbnbgllgomolaaDoor
open Go.RowKit
namespace Ma
open Dp Dy
def loopsOfK : Code → List Code
 | .loop c => [c]
 | .seq a b => loopsOfK a ++ loopsOfK b
 | .block _ c => loopsOfK c
 | .scope c => loopsOfK c
 | .cond _ a b => loopsOfK a ++ loopsOfK b
 | _ => []
noncomputable def kpLoop : Code := (((Tryd.f8.body.map loopsOfK).getD [])[1]?).getD .skip
set_option maxHeartbeats 102400000 in
set_option maxRecDepth 1000000 in
theorem keeps_round (s0 s1 s2 s5 s6 s7 s8 s9 s11 s13 s14 s15 s16 s17 s18 s20 s21 s22 s23 s24 s25 s26 s27 s28 s29 s30 s31 s32 s33 s34 s35 s36 s37 s38 s39 s40 s41 s42 s43 s44 s45 s46 s47 s48 s49 s50 s51 s52 s53 s54 s55 s56 s57 s58 s59 s60 s61 s62 s63 s64 s65 s66 s67 s68 s69 s70 s71 s72 s73 s74 s75 s76 s77 s78 s79 s80 s81 s82 s83 s84 s85 s86 s87 s88 s89 s90 s91 s92 s93 s94 s95 s96 s97 s98 s99 s100 s101 s102 s103 s104 s105 s106 s107 s108 s109 s110 s111 s112 s113 s114 s115 s116 s117 s118 s119 s120 s121 s122 s123 s124 s125 s126 s127 s128 s129 s130 s131 s132 s133 s134 s135 s136 s137 s138 s139 s140 s141 s142 s143 s144 s145 s146 s147 s148 s149 s150 s151 s152 s153 s154 s155 s156 s157 s158 s159 s160 s161 s162 s163 s164 s165 s166 s167 s168 s169 s170 s171 s172 s173 s174 s175 s176 s177 s178 s179 s180 s181 s182 s183 s184 s185 s186 s187 s188 s189 s190 s191 s192 s193 s194 s195 s196 s197 s198 s199 s200 s201 s202 s203 s204 s205 s206 s207 s208 s209 s210 s211 s212 s213 s214 s215 s216 s217 s218 s219 s220 s221 s222 s223 s224 s225 s226 s227 s228 s229 s230 s231 s232 s233 s234 s235 s236 s237 s238 s239 s240 s241 s242 s243 s244 s245 s246 s247 s248 s249 s250 s251 s252 s253 s254 s255 s256 s257 s258 s259 s260 s261 s262 : Value) (E : Exit → Act → World → Prop) (hpan : ∀ {x a a' w}, a.defers = a'.defers → E (.panic x) a w → E (.panic x) a' w) (w : World) (hT : Tab w) (A1 A2 A3 : Option Addr) (n1 d1 n2 d2 i c3 : Nat) (xs1 xs2 : List Int) (hx1 : Ints w 0 w.heap.size .i64 A1 n1 xs1) (hx2 : Ints w 0 w.heap.size .i64 A2 n2 xs2) (hn8 : ¬ 8 < i) (hn40 : ¬ 40 < n1)
  (B3 B4 B5 : Nat) (lb0 : w.heap.size ≤ B3) (lb1 : B3 ≤ B4) (lb2 : B4 < B5) (hOlt : ∀ k, (Value.slice A3 i c3).ownBlock = some k → k < B3) (x : Mv) (sm : Nat → Int) (all : Prop) (low high : Int)
  (j : Nat) (os : List Mv) (wr : World) (hj1 : j ≤ n1) (hO : OwnM wr w.heap.size (.slice A3 i c3) i os) (hb : Below w.heap.size w wr) (lw5 : B5 ≤ wr.heap.size) (hXR : MBox wr B4 x ∧ MRows wr B3 B4 x) (hK0 : Keep 240 (200 + j) os sm (8 * 2 ^ kE) all low high zR)
  (hexit : ∀ (t20 t21 t22 t23 t24 t25 t26 t144 t145 t146 t147 t148 t149 t150 t151 t152 t153 t154 t155 t156 t157 t158 t159 t160 t161 t162 t163 t164 t165 t166 t167 t168 t169 t170 t171 t172 t173 t174 t175 t176 t177 t178 t179 t180 t181 t182 t183 t184 t185 t186 t187 t188 t189 t190 t191 t192 t193 t194 t195 t196 t197 t198 t199 t200 t201 t202 t203 t204 t205 t206 t207 t208 t209 t210 t211 : Value), E (.exit 2) ⟨#[s0, s1, s2, (.slice A1 n1 d1), (.slice A2 n2 d2), s5, s6, s7, s8, s9, (.bool false), s11, (.slice A3 i c3), s13, s14, s15, s16, s17, s18, (.int .i64 (j : Int)), t20, t21, t22, t23, t24, t25, t26, s27, s28, s29, s30, s31, s32, s33, s34, s35, s36, s37, s38, s39, s40, s41, s42, s43, s44, s45, s46, s47, s48, s49, s50, s51, s52, s53, s54, s55, s56, s57, s58, s59, s60, s61, s62, s63, s64, s65, s66, s67, s68, s69, s70, s71, s72, s73, s74, s75, s76, s77, s78, s79, s80, s81, s82, s83, s84, s85, s86, s87, s88, s89, s90, s91, s92, s93, s94, s95, s96, s97, s98, s99, s100, s101, s102, s103, s104, s105, s106, s107, s108, s109, s110, s111, s112, s113, s114, s115, s116, s117, s118, s119, s120, s121, s122, s123, s124, s125, s126, s127, s128, s129, s130, s131, s132, s133, s134, s135, s136, s137, s138, s139, s140, s141, s142, s143, t144, t145, t146, t147, t148, t149, t150, t151, t152, t153, t154, t155, t156, t157, t158, t159, t160, t161, t162, t163, t164, t165, t166, t167, t168, t169, t170, t171, t172, t173, t174, t175, t176, t177, t178, t179, t180, t181, t182, t183, t184, t185, t186, t187, t188, t189, t190, t191, t192, t193, t194, t195, t196, t197, t198, t199, t200, t201, t202, t203, t204, t205, t206, t207, t208, t209, t210, t211, s212, s213, s214, s215, s216, s217, s218, s219, s220, s221, s222, s223, s224, s225, s226, s227, s228, s229, s230, s231, s232, s233, s234, s235, s236, s237, s238, s239, s240, s241, s242, s243, s244, s245, s246, s247, s248, s249, s250, s251, s252, s253, s254, s255, s256, s257, s258, s259, s260, s261, s262], []⟩ wr)
  (hnext : ∀ (os' : List Mv) (t20 t21 t22 t23 t24 t25 t26 t144 t145 t146 t147 t148 t149 t150 t151 t152 t153 t154 t155 t156 t157 t158 t159 t160 t161 t162 t163 t164 t165 t166 t167 t168 t169 t170 t171 t172 t173 t174 t175 t176 t177 t178 t179 t180 t181 t182 t183 t184 t185 t186 t187 t188 t189 t190 t191 t192 t193 t194 t195 t196 t197 t198 t199 t200 t201 t202 t203 t204 t205 t206 t207 t208 t209 t210 t211 : Value) (w' : World), j + 1 ≤ n1 → OwnM w' w.heap.size (.slice A3 i c3) i os' → Below w.heap.size w w' → B5 ≤ w'.heap.size → (MBox w' B4 x ∧ MRows w' B3 B4 x) → Keep 240 (200 + (j + 1)) os' sm (8 * 2 ^ kE) all low high zR → E .normal ⟨#[s0, s1, s2, (.slice A1 n1 d1), (.slice A2 n2 d2), s5, s6, s7, s8, s9, (.bool false), s11, (.slice A3 i c3), s13, s14, s15, s16, s17, s18, (.int .i64 ((j + 1 : Nat) : Int)), t20, t21, t22, t23, t24, t25, t26, s27, s28, s29, s30, s31, s32, s33, s34, s35, s36, s37, s38, s39, s40, s41, s42, s43, s44, s45, s46, s47, s48, s49, s50, s51, s52, s53, s54, s55, s56, s57, s58, s59, s60, s61, s62, s63, s64, s65, s66, s67, s68, s69, s70, s71, s72, s73, s74, s75, s76, s77, s78, s79, s80, s81, s82, s83, s84, s85, s86, s87, s88, s89, s90, s91, s92, s93, s94, s95, s96, s97, s98, s99, s100, s101, s102, s103, s104, s105, s106, s107, s108, s109, s110, s111, s112, s113, s114, s115, s116, s117, s118, s119, s120, s121, s122, s123, s124, s125, s126, s127, s128, s129, s130, s131, s132, s133, s134, s135, s136, s137, s138, s139, s140, s141, s142, s143, t144, t145, t146, t147, t148, t149, t150, t151, t152, t153, t154, t155, t156, t157, t158, t159, t160, t161, t162, t163, t164, t165, t166, t167, t168, t169, t170, t171, t172, t173, t174, t175, t176, t177, t178, t179, t180, t181, t182, t183, t184, t185, t186, t187, t188, t189, t190, t191, t192, t193, t194, t195, t196, t197, t198, t199, t200, t201, t202, t203, t204, t205, t206, t207, t208, t209, t210, t211, s212, s213, s214, s215, s216, s217, s218, s219, s220, s221, s222, s223, s224, s225, s226, s227, s228, s229, s230, s231, s232, s233, s234, s235, s236, s237, s238, s239, s240, s241, s242, s243, s244, s245, s246, s247, s248, s249, s250, s251, s252, s253, s254, s255, s256, s257, s258, s259, s260, s261, s262], []⟩ w') :
  Code.wp Tryd.prog kpLoop E ⟨#[s0, s1, s2, (.slice A1 n1 d1), (.slice A2 n2 d2), s5, s6, s7, s8, s9, (.bool false), s11, (.slice A3 i c3), s13, s14, s15, s16, s17, s18, (.int .i64 (j : Int)), s20, s21, s22, s23, s24, s25, s26, s27, s28, s29, s30, s31, s32, s33, s34, s35, s36, s37, s38, s39, s40, s41, s42, s43, s44, s45, s46, s47, s48, s49, s50, s51, s52, s53, s54, s55, s56, s57, s58, s59, s60, s61, s62, s63, s64, s65, s66, s67, s68, s69, s70, s71, s72, s73, s74, s75, s76, s77, s78, s79, s80, s81, s82, s83, s84, s85, s86, s87, s88, s89, s90, s91, s92, s93, s94, s95, s96, s97, s98, s99, s100, s101, s102, s103, s104, s105, s106, s107, s108, s109, s110, s111, s112, s113, s114, s115, s116, s117, s118, s119, s120, s121, s122, s123, s124, s125, s126, s127, s128, s129, s130, s131, s132, s133, s134, s135, s136, s137, s138, s139, s140, s141, s142, s143, s144, s145, s146, s147, s148, s149, s150, s151, s152, s153, s154, s155, s156, s157, s158, s159, s160, s161, s162, s163, s164, s165, s166, s167, s168, s169, s170, s171, s172, s173, s174, s175, s176, s177, s178, s179, s180, s181, s182, s183, s184, s185, s186, s187, s188, s189, s190, s191, s192, s193, s194, s195, s196, s197, s198, s199, s200, s201, s202, s203, s204, s205, s206, s207, s208, s209, s210, s211, s212, s213, s214, s215, s216, s217, s218, s219, s220, s221, s222, s223, s224, s225, s226, s227, s228, s229, s230, s231, s232, s233, s234, s235, s236, s237, s238, s239, s240, s241, s242, s243, s244, s245, s246, s247, s248, s249, s250, s251, s252, s253, s254, s255, s256, s257, s258, s259, s260, s261, s262], []⟩ wr := by
 conv => arg 2; whnf
 skip
 obtain ⟨hX, Rx⟩ := hXR
 have hI := Lib.hid hK0
 clear hK0
 have HLo : Hid (os.length = i) := Lib.hid hO.len
 have lw2 := hb.size
 have hwrj : IntKind.i64.wrap ((j : Int) + 1) = ((j + 1 : Nat) : Int) := by rw [IntKind.wrap_i64]; omega
 by_cases hj2 : j < n1
 rotate_left
 · go_wp2
   exact hexit _ _ _ _ _ _ _ _ _ _ _ _ _ _ _ _ _ _ _ _ _ _ _ _ _ _ _ _ _ _ _ _ _ _ _ _ _ _ _ _ _ _ _ _ _ _ _ _ _ _ _ _ _ _ _ _ _ _ _ _ _ _ _ _ _ _ _ _ _ _ _ _ _ _ _
 by_cases hj3 : j < n2
 rotate_left
 · go_wp2
   exact hexit _ _ _ _ _ _ _ _ _ _ _ _ _ _ _ _ _ _ _ _ _ _ _ _ _ _ _ _ _ _ _ _ _ _ _ _ _ _ _ _ _ _ _ _ _ _ _ _ _ _ _ _ _ _ _ _ _ _ _ _ _ _ _ _ _ _ _ _ _ _ _ _ _ _ _
 obtain ⟨b1, off1, hA1, h11, h12, hc1⟩ := (hx1.below hb (Nat.le_refl _)).row (by omega)
 have r1 := (hc1 j hj2).1
 obtain ⟨p, hp⟩ : ∃ p, xs1[j]?.getD 0 = p := ⟨_, rfl⟩
 rw [hp] at r1
 obtain ⟨b2, off2, hA2, h21, h22, hc2⟩ := (hx2.below hb (Nat.le_refl _)).row (by omega)
 have r2 := (hc2 j hj3).1
 obtain ⟨q, hq⟩ : ∃ q, xs2[j]?.getD 0 = q := ⟨_, rfl⟩
 rw [hq] at r2
 clear hc1 hc2 hp hq
 subst hA1 hA2
 go_wp2_with fail
 have kp_ : Keeps wr wr.drew := fun _ _ => rfl
 refine region_E (Keeps wr) [] (m := 10) (L := #[zF,zF,zF,zF,zF,zF,zF,zF,zF,zF]) (by kernel_rfl) (by rfl) (by rfl) ?_
 have hB : Below wr.heap.size wr wr.drew := (Below.refl _ _).drew
 have lb1_ : b1 < wr.heap.size := by omega
 have lb2_ : b2 < wr.heap.size := by omega
 generalize wr.drew = v0 at *
 refine pureE (i := 0) (L := #[zT,zF,zF,zF,zF,zF,zF,zF,zF,zF]) (v := ?_) rfl (by rfl) (by kernel_rfl) (by kernel_rfl) (by kernel_rfl) (fun _ _ _ h => hpan (by rfl) h) (by rfl) ?hy1 ?rest1
 case hy1 => intro w; go_simp; (try with_reducible rfl)
 try simp only [Act.put, zp]
 refine pureE (i := 1) (L := #[zT,zT,zF,zF,zF,zF,zF,zF,zF,zF]) (v := ?_) rfl (by rfl) (by kernel_rfl) (by kernel_rfl) (by kernel_rfl) (fun _ _ _ h => hpan (by rfl) h) (by rfl) ?hy2 ?rest2
 case hy2 => intro w; go_simp; (try with_reducible rfl)
 try simp only [Act.put, zp]
 refine pureE (i := 2) (L := #[zT,zT,zT,zF,zF,zF,zF,zF,zF,zF]) (v := ?_) rfl (by rfl) (by kernel_rfl) (by kernel_rfl) (by kernel_rfl) (fun _ _ _ h => hpan (by rfl) h) (by rfl) ?hy3 ?rest3
 case hy3 => intro w; go_simp; (try with_reducible rfl)
 try simp only [Act.put, zp]
 refine readE (i := 3) (L := #[zT,zT,zT,zT,zF,zF,zF,zF,zF,zF]) (v := .int .i64 p) rfl (by rfl) (by kernel_rfl) (by kernel_rfl) (by kernel_rfl) (fun _ _ _ h => hpan (by rfl) h) (by assumption) (by rfl) ?yc ?zc
 case yc =>
  intro w' h1
  have e0 : w'.cell? ⟨b1, off1 + j, none⟩ = some (.int .i64 p) := (World.cell?_of_block (h1 _ lb1_)).trans r1
  go_simp
 try simp only [Act.put, zp]
 refine pureE (i := 4) (L := #[zT,zT,zT,zT,zT,zF,zF,zF,zF,zF]) (v := ?_) rfl (by rfl) (by kernel_rfl) (by kernel_rfl) (by kernel_rfl) (fun _ _ _ h => hpan (by rfl) h) (by rfl) ?hy5 ?rest5
 case hy5 => intro w; go_simp; (try with_reducible rfl)
 try simp only [Act.put, zp]
 refine pureE (i := 5) (L := #[zT,zT,zT,zT,zT,zT,zF,zF,zF,zF]) (v := ?_) rfl (by rfl) (by kernel_rfl) (by kernel_rfl) (by kernel_rfl) (fun _ _ _ h => hpan (by rfl) h) (by rfl) ?hy6 ?rest6
 case hy6 => intro w; go_simp; (try with_reducible rfl)
 try simp only [Act.put, zp]
 refine pureE (i := 6) (L := #[zT,zT,zT,zT,zT,zT,zT,zF,zF,zF]) (v := ?_) rfl (by rfl) (by kernel_rfl) (by kernel_rfl) (by kernel_rfl) (fun _ _ _ h => hpan (by rfl) h) (by rfl) ?hy7 ?rest7
 case hy7 => intro w; go_simp; (try with_reducible rfl)
 try simp only [Act.put, zp]
 refine readE (i := 7) (L := #[zT,zT,zT,zT,zT,zT,zT,zT,zF,zF]) (v := .int .i64 q) rfl (by rfl) (by kernel_rfl) (by kernel_rfl) (by kernel_rfl) (fun _ _ _ h => hpan (by rfl) h) (by assumption) (by rfl) ?yd ?zd
 case yd =>
  intro w' h1
  have e0 : w'.cell? ⟨b2, off2 + j, none⟩ = some (.int .i64 q) := (World.cell?_of_block (h1 _ lb2_)).trans r2
  go_simp
 try simp only [Act.put, zp]
 refine pureE (i := 8) (L := #[zT,zT,zT,zT,zT,zT,zT,zT,zT,zF]) (v := ?_) rfl (by rfl) (by kernel_rfl) (by kernel_rfl) (by kernel_rfl) (fun _ _ _ h => hpan (by rfl) h) (by rfl) ?hy9 ?rest9
 case hy9 => intro w; go_simp; (try with_reducible rfl)
 try simp only [Act.put, zp]
 refine pureE (i := 9) (L := #[zT,zT,zT,zT,zT,zT,zT,zT,zT,zT]) (v := ?_) rfl (by rfl) (by kernel_rfl) (by kernel_rfl) (by kernel_rfl) (fun _ _ _ h => hpan (by rfl) h) (by rfl) ?hy10 ?rest10
 case hy10 => intro w; go_simp; (try with_reducible rfl)
 try simp only [Act.put, zp]
 refine doneE (by kernel_rfl) ?_ _
 have lv0 : wr.heap.size ≤ v0.heap.size := hB.size
 replace hO := hO.on hB
 replace hb := hb.trans (hB.mono (by omega))
 replace Rx := Rx.below hB (by omega)
 replace hX := box_on hX hB (lt_of_heap hX)
 clear hB r1 r2 kp_
 by_cases n1_ : p < 0
 · go_wp2
   exact hnext os _ _ _ _ _ _ _ _ _ _ _ _ _ _ _ _ _ _ _ _ _ _ _ _ _ _ _ _ _ _ _ _ _ _ _ _ _ _ _ _ _ _ _ _ _ _ _ _ _ _ _ _ _ _ _ _ _ _ _ _ _ _ _ _ _ _ _ _ _ _ _ _ _ _ _ _ (by omega) hO hb (by omega) ⟨hX, Rx⟩ (hI.out.more (by omega))
 by_cases n2_ : (i : Int) ≤ p
 · go_wp2
   exact hnext os _ _ _ _ _ _ _ _ _ _ _ _ _ _ _ _ _ _ _ _ _ _ _ _ _ _ _ _ _ _ _ _ _ _ _ _ _ _ _ _ _ _ _ _ _ _ _ _ _ _ _ _ _ _ _ _ _ _ _ _ _ _ _ _ _ _ _ _ _ _ _ _ _ _ _ _ (by omega) hO hb (by omega) ⟨hX, Rx⟩ (hI.out.more (by omega))
 by_cases n3_ : q < 0
 · go_wp2
   exact hnext os _ _ _ _ _ _ _ _ _ _ _ _ _ _ _ _ _ _ _ _ _ _ _ _ _ _ _ _ _ _ _ _ _ _ _ _ _ _ _ _ _ _ _ _ _ _ _ _ _ _ _ _ _ _ _ _ _ _ _ _ _ _ _ _ _ _ _ _ _ _ _ _ _ _ _ _ (by omega) hO hb (by omega) ⟨hX, Rx⟩ (hI.out.more (by omega))
 by_cases n4_ : (i : Int) ≤ q
 · go_wp2
   exact hnext os _ _ _ _ _ _ _ _ _ _ _ _ _ _ _ _ _ _ _ _ _ _ _ _ _ _ _ _ _ _ _ _ _ _ _ _ _ _ _ _ _ _ _ _ _ _ _ _ _ _ _ _ _ _ _ _ _ _ _ _ _ _ _ _ _ _ _ _ _ _ _ _ _ _ _ _ (by omega) hO hb (by omega) ⟨hX, Rx⟩ (hI.out.more (by omega))
 obtain ⟨P, rfl⟩ : ∃ P : Nat, p = P := ⟨p.toNat, by omega⟩
 obtain ⟨Q, rfl⟩ : ∃ Q : Nat, q = Q := ⟨q.toNat, by omega⟩
 have hP : P < os.length := by rw [HLo.out]; omega
 have hQ : Q < os.length := by rw [HLo.out]; omega
 have hPi : P < i := by omega
 have hQi : Q < i := by omega
 obtain ⟨g, o_, hAo, ho0, hg1, hg2⟩ := hO.addrK (by omega)
 subst hAo
 have ho := Lib.hid ho0
 clear ho0
 have og : g < B3 := hOlt g rfl
 obtain ⟨dP, hdP⟩ : ∃ d, os[P] = d := ⟨_, rfl⟩
 have RP : MRows v0 0 v0.heap.size dP := by rw [← hdP]; exact hO.rows _ (List.getElem_mem hP)
 have hcP : MCells v0 g (o_ + P * 12) dP := by rw [← hdP]; exact hO.mcells ho.out hP
 have HDP := Lib.hid hdP
 clear hdP
 obtain ⟨kR, sR, f, hgv⟩ : ∃ k s c, giveM dP = ((k, s), c) := ⟨_, _, _, rfl⟩
 have HGV := Lib.hid hgv
 have mKS := Lib.hid (give_may RP hgv)
 clear hgv
 obtain ⟨k0, k1, k2, k3, k4, k5, k6, k7, k8, k9, k10, k11⟩ := hcP
 go_wp2_with fail
 refine (Give_num v0 dP RP (hT.below hb hT.lt) kR sR f HGV.out).mono ?_
 rintro e v1 ⟨k_, s_, rfl, hB, ik, is, Bm, lm1, lm2, Rk, Rs⟩
 clear k0 k1 k2 k3 k4 k5 k6 k7 k8 k9 k10 k11
 replace ik := Lib.hid ik
 replace is := Lib.hid is
 replace Rk : MRows v1 v0.heap.size v1.heap.size k_ := Rk.more (Nat.le_refl _) lm2
 replace Rs : MRows v1 v0.heap.size v1.heap.size s_ := Rs.more lm1 (Nat.le_refl _)
 clear lm1 lm2
 have lv1 : v0.heap.size ≤ v1.heap.size := hB.size
 replace hO := hO.on hB
 replace hb := hb.trans (hB.mono (by omega))
 replace Rx := Rx.below hB (by omega)
 replace hX := box_on hX hB (lt_of_heap hX)
 replace RP := MRows.on RP hB
 clear hB
 obtain ⟨v2, hv2, hK_, hS_, hB, lv2⟩ := alloc_mm v1 k_ s_
 replace Rk := Rk.below hB (by omega)
 replace Rs := Rs.below hB (by omega)
 have lv2 : v1.heap.size ≤ v2.heap.size := hB.size
 replace hO := hO.on hB
 replace hb := hb.trans (hB.mono (by omega))
 replace Rx := Rx.below hB (by omega)
 replace hX := box_on hX hB (lt_of_heap hX)
 replace RP := MRows.on RP hB
 clear hB
 by_cases hf0 : f = 0
 rotate_left
 · have hfb : (f != 0) = true := by simpa using hf0
   go_wp2
   try clear hv2
   exact hnext os _ _ _ _ _ _ _ _ _ _ _ _ _ _ _ _ _ _ _ _ _ _ _ _ _ _ _ _ _ _ _ _ _ _ _ _ _ _ _ _ _ _ _ _ _ _ _ _ _ _ _ _ _ _ _ _ _ _ _ _ _ _ _ _ _ _ _ _ _ _ _ _ _ _ _ _ (by omega) hO hb (by omega) ⟨hX, Rx⟩ (hI.out.more (by omega))
 subst hf0
 obtain ⟨hI2, hlies, hneg, hm0, hse⟩ := hI.out.give (by omega) hP (w := v2) (lo := 0) (hi' := v2.heap.size) (by rw [HDP.out]; exact RP) (by rw [HDP.out]; exact HGV.out) Rk ik.out
 have HI2 := Lib.hid hI2
 have HLIES := Lib.hid hlies
 have HNEG := Lib.hid hneg
 have HM0 := Lib.hid hm0
 have HSE := Lib.hid hse
 obtain ⟨s2z, s3z⟩ : sR 2 = Dn.zero ∧ sR 3 = Dn.zero := by
  obtain ⟨_, _, _, _, _, g4⟩ := give_inv RP HGV.out
  exact ⟨g4 2 (by decide), g4 3 (by decide)⟩
 have HZ := Lib.hid (And.intro s2z s3z)
 clear hI2 hlies hneg hm0 hse s2z s3z
 obtain ⟨U, hUe, hO2, hbU, hfU, lU, lU'⟩ := hO.put ho.out hP k_ (Rk.more (Nat.zero_le _) (by omega)) (rows_off Rk fun k hk => by
  injection hk with hk
  exact .inl (by omega))
 have hfz := fun k => hO.frz ho.out k
 have gK := hK_
 obtain ⟨c0_, c1_, c2_, c3_, c4_, c5_, c6_, c7_, c8_, c9_, c10_, c11_⟩ := hO.mcells ho.out hP
 obtain ⟨⟨y0, y1, y2, y3, y4, y5, y6, y7, y8, y9, y10, y11⟩, yf⟩ := MBox.cells hK_
 go_upto_region 23 with fail
 try clear hv2
 try rw [hUe]
 clear hUe hfz c0_ c1_ c2_ c3_ c4_ c5_ c6_ c7_ c8_ c9_ c10_ c11_ y0 y1 y2 y3 y4 y5 y6 y7 y8 y9 y10 y11 yf gK hO
 replace hb := hbU _ _ hb (by omega)
 replace Rx := rows_rng Rx (w' := U) (fun b h1 h2 => hfU b (by omega))
 have gX := lt_of_heap hX
 have gS := lt_of_heap hS_
 replace hX : MBox U _ _ := (hfU _ (by omega)).trans hX
 replace hS_ : MBox U _ s_ := (hfU _ (by omega)).trans hS_
 replace Rs := rows_rng Rs (w' := U) (fun b h1 h2 => hfU b (by omega))
 clear hbU hfU hK_ Rk RP
 have hO := hO2
 clear hO2
 have hQ2 : Q < (os.set P k_).length := by simp; exact hQ
 obtain ⟨dQ, hdQ⟩ : ∃ d, (os.set P k_)[Q] = d := ⟨_, rfl⟩
 have HDQ := Lib.hid hdQ
 have RQ : MRows U 0 U.heap.size dQ := by rw [← hdQ]; exact hO.rows _ (List.getElem_mem hQ2)
 have hcQ := Lib.hid (show MCells U g (o_ + Q * 12) dQ by rw [← hdQ]; exact hO.mcells ho.out hQ2)
 clear hdQ
 have RS : MRows U 0 U.heap.size s_ := Rs.more (Nat.zero_le _) (by omega)
 obtain ⟨T, cT, htk⟩ : ∃ T c, takeM dQ s_ = (T, c) := ⟨_, _, rfl⟩
 obtain ⟨hcT, hnx⟩ := HI2.out.take (by decide) keep_cap (by omega) HLIES.out HNEG.out HM0.out HSE.out HZ.out.1 HZ.out.2 hQ2 (T := T) (code := cT) (w := U) (lo := 0) (hi' := U.heap.size) (by rw [HDQ.out]; exact RQ) RS is.out mKS.out.2 (by rw [HDQ.out]; exact htk)
 subst hcT
 have HTK := Lib.hid htk
 have HNX : Hid (∀ (k : Mv) (w2 : World) (lo3 hi3 : Nat), MRows w2 lo3 hi3 k → IsM T k → Keep 240 (200 + j + 1) ((os.set P k_).set Q k) sm (8 * 2 ^ kE) all low high zR) := Lib.hid fun k w2 lo3 hi3 h1 h2 => hnx h1 h2
 clear htk hnx
 refine region_E (Keeps U) [] (m := 12) (L := #[zF,zF,zF,zF,zF,zF,zF,zF,zF,zF,zF,zF]) (by kernel_rfl) (by rfl) (by rfl) ?_
 have kp_ : Keeps U U.drew := fun _ _ => rfl
 have b_ : Below U.heap.size U U.drew := (Below.refl _ _).drew
 have ly1 : U.heap.size ≤ U.drew.heap.size := Nat.le_refl _
 replace RQ : MRows U.drew 0 U.drew.heap.size _ := MRows.on RQ b_
 replace RS : MRows U.drew 0 U.drew.heap.size _ := MRows.on RS b_
 generalize U.drew = y1 at *
 refine pureE (i := 0) (L := #[zT,zF,zF,zF,zF,zF,zF,zF,zF,zF,zF,zF]) (v := ?_) rfl (by rfl) (by kernel_rfl) (by kernel_rfl) (by kernel_rfl) (fun _ _ _ h => hpan (by rfl) h) (by rfl) ?hy11 ?rest11
 case hy11 => intro w; go_simp; (try with_reducible rfl)
 try simp only [Act.put, zp]
 refine pureE (i := 1) (L := #[zT,zT,zF,zF,zF,zF,zF,zF,zF,zF,zF,zF]) (v := ?_) rfl (by rfl) (by kernel_rfl) (by kernel_rfl) (by kernel_rfl) (fun _ _ _ h => hpan (by rfl) h) (by rfl) ?hy12 ?rest12
 case hy12 => intro w; go_simp; (try with_reducible rfl)
 try simp only [Act.put, zp]
 refine pureE (i := 2) (L := #[zT,zT,zT,zF,zF,zF,zF,zF,zF,zF,zF,zF]) (v := ?_) rfl (by rfl) (by kernel_rfl) (by kernel_rfl) (by kernel_rfl) (fun _ _ _ h => hpan (by rfl) h) (by rfl) ?hy13 ?rest13
 case hy13 => intro w; go_simp; (try with_reducible rfl)
 try simp only [Act.put, zp]
 refine readE (i := 3) (L := #[zT,zT,zT,zT,zF,zF,zF,zF,zF,zF,zF,zF]) (v := .agg #[.bool dQ.S.s, .slice dQ.S.A dQ.S.n dQ.S.c, .int .i64 dQ.S.e, .bool dQ.W.s, .slice dQ.W.A dQ.W.n dQ.W.c, .int .i64 dQ.W.e, .bool dQ.C.s, .slice dQ.C.A dQ.C.n dQ.C.c, .int .i64 dQ.C.e, .bool dQ.A.s, .slice dQ.A.A dQ.A.n dQ.A.c, .int .i64 dQ.A.e]) rfl (by rfl) (by kernel_rfl) (by kernel_rfl) (by kernel_rfl) (fun _ _ _ h => hpan (by rfl) h) (by assumption) (by rfl) ?yp_ ?zp_
 case yp_ =>
  intro w' h1
  obtain ⟨k0, k1, k2, k3, k4, k5, k6, k7, k8, k9, k10, k11⟩ := hcQ.out.blk (h1 _ (by omega))
  go_simp
 try simp only [Act.put, zp]
 refine readE (i := 4) (L := #[zT,zT,zT,zT,zT,zF,zF,zF,zF,zF,zF,zF]) (v := .agg #[.bool s_.S.s, .slice s_.S.A s_.S.n s_.S.c, .int .i64 s_.S.e, .bool s_.W.s, .slice s_.W.A s_.W.n s_.W.c, .int .i64 s_.W.e, .bool s_.C.s, .slice s_.C.A s_.C.n s_.C.c, .int .i64 s_.C.e, .bool s_.A.s, .slice s_.A.A s_.A.n s_.A.c, .int .i64 s_.A.e]) rfl (by rfl) (by kernel_rfl) (by kernel_rfl) (by kernel_rfl) (fun _ _ _ h => hpan (by rfl) h) (by assumption) (by rfl) ?yd2_ ?zd2_
 case yd2_ =>
  intro w' h1
  obtain ⟨⟨k0, k1, k2, k3, k4, k5, k6, k7, k8, k9, k10, k11⟩, kf⟩ := MBox.cells ((h1 _ (lt_of_heap hS_)).trans hS_)
  go_simp
 try simp only [Act.put, zp]
 refine stepK2 (i := 5) (j := 9) (Li := #[zT,zT,zT,zT,zT,zT,zF,zF,zF,zF,zF,zF]) (Lj := #[zT,zT,zT,zT,zT,zF,zF,zF,zF,zT,zF,zF]) rfl rfl (by rfl) (by rfl) (by kernel_rfl) (by rfl) (by rfl) (fun K hK => ?o2) (fun K hK => ?o3)
 case o2 =>
  go_simp
  go_at_call 13
  refine (Take_num y1 dQ s_ RQ RS (hT.below (hb.trans (b_.mono (by omega))) hT.lt) T 0 HTK.out).mono ?_
  rintro e' y4 ⟨x', rfl, hB, ix, rx⟩
  replace ix := Lib.hid ix
  replace kp_ := Keeps.on kp_ (by omega) hB
  replace b_ := b_.trans (hB.mono (by omega))
  have ly4 : y1.heap.size ≤ y4.heap.size := hB.size
  replace RQ := RQ.on hB
  replace RS := RS.on hB
  clear hB
  refine hK _ _ ⟨fun _ _ => kp_, ?_⟩
  clear hK K
  try simp only [Act.put, zp]
  refine pureE (i := 6) (L := #[zT,zT,zT,zT,zT,zT,zT,zF,zF,zF,zF,zF]) (v := ?_) rfl (by rfl) (by kernel_rfl) (by kernel_rfl) (by kernel_rfl) (fun _ _ _ h => hpan (by rfl) h) (by rfl) ?hy16 ?rest16
  case hy16 => intro w; go_simp; (try with_reducible rfl)
  try simp only [Act.put, zp]
  refine pureE (i := 7) (L := #[zT,zT,zT,zT,zT,zT,zT,zT,zF,zF,zF,zF]) (v := ?_) rfl (by rfl) (by kernel_rfl) (by kernel_rfl) (by kernel_rfl) (fun _ _ _ h => hpan (by rfl) h) (by rfl) ?hy17 ?rest17
  case hy17 => intro w; go_simp; (try with_reducible rfl)
  try simp only [Act.put, zp]
  refine pureE (i := 8) (L := #[zT,zT,zT,zT,zT,zT,zT,zT,zT,zF,zF,zF]) (v := ?_) rfl (by rfl) (by kernel_rfl) (by kernel_rfl) (by kernel_rfl) (fun _ _ _ h => hpan (by rfl) h) (by rfl) ?hy18 ?rest18
  case hy18 => intro w; go_simp; (try with_reducible rfl)
  try simp only [Act.put, zp]
  refine stepK (i := 9) (L := #[zT,zT,zT,zT,zT,zT,zT,zT,zT,zT,zF,zF]) rfl (by rfl) (by kernel_rfl) (by rfl) (fun K hK => ?_)
  go_simp
  obtain ⟨y5, hw_, hV9, hB, hl_⟩ := alloc_z y4
  rw [hw_]
  clear hw_
  replace kp_ := Keeps.on kp_ (by omega) hB
  replace b_ := b_.trans (hB.mono (by omega))
  have ly5 : y4.heap.size ≤ y5.heap.size := hB.size
  replace rx := rx.below hB (by omega)
  clear hB
  refine hK _ _ ⟨fun _ _ => kp_, ?_⟩
  clear hK K
  try simp only [Act.put, zp]
  obtain ⟨⟨z0, z1, z2, z3, z4, z5, z6, z7, z8, z9, z10, z11⟩, zf⟩ := MBox.cells hV9
  obtain ⟨y6, hw_, n_, hb_, hf_, ly6, l2y6⟩ := all_to hV9 x'
  refine stepK (i := 10) (L := #[zT,zT,zT,zT,zT,zT,zT,zT,zT,zT,zT,zF]) rfl (by rfl) (by kernel_rfl) (by rfl) (fun K hK => ?_)
  go_simp
  try rw [hw_]
  replace kp_ : Keeps _ y6 := fun p hp => (hf_ _ (by omega)).trans (kp_ p hp)
  replace b_ := hb_ _ _ b_ (by omega)
  refine hK _ _ ⟨fun _ _ => kp_, ?_⟩
  clear hK K hw_ z0 z1 z2 z3 z4 z5 z6 z7 z8 z9 z10 z11 zf hb_
  try simp only [Act.put, zp]
  replace hV9 : MBox y6 _ _ := n_
  replace rx := rows_rng rx (w' := y6) (fun b h1 h2 => hf_ b (by omega))
  clear hf_
  refine pureE (i := 11) (L := #[zT,zT,zT,zT,zT,zT,zT,zT,zT,zT,zT,zT]) (v := ?_) rfl (by rfl) (by kernel_rfl) (by kernel_rfl) (by kernel_rfl) (fun _ _ _ h => hpan (by rfl) h) (by rfl) ?hy21 ?rest21
  case hy21 => intro w; go_simp; (try with_reducible rfl)
  try simp only [Act.put, zp]
  refine doneE (by kernel_rfl) ?_ _
  have hB := b_
  have l25 : U.heap.size ≤ y4.heap.size := by omega
  have hXx := hV9
  have Rx' := rx.more (lo' := U.heap.size) (hi' := y6.heap.size) (by omega) (by omega)
  have hix := Lib.hid ix.out
  have ly6 : U.heap.size ≤ y6.heap.size := hB.size
  replace hO := hO.on hB
  replace hb := hb.trans (hB.mono (by omega))
  replace Rx := Rx.below hB (by omega)
  replace hX := box_on hX hB (lt_of_heap hX)
  clear hB
  have l25' := lt_of_heap hXx
  obtain ⟨V, hV, hO3, hbV, hfV, lV, lV'⟩ := hO.put ho.out hQ2 x' (Rx'.more (Nat.zero_le _) (Nat.le_refl _)) (rows_off Rx' fun k hk => by
   injection hk with hk
   exact .inl (by omega))
  have hfz := fun k => hO.frz ho.out k
  obtain ⟨k0, k1, k2, k3, k4, k5, k6, k7, k8, k9, k10, k11⟩ := hO.mcells ho.out hQ2
  obtain ⟨⟨y0, y1, y2, y3, y4, y5, y6, y7, y8, y9, y10, y11⟩, yf⟩ := MBox.cells hXx
  have hI3 : Hid (Keep 240 (200 + (j + 1)) ((os.set P k_).set Q x') sm (8 * 2 ^ kE) all low high zR) := Lib.hid (HNX.out _ _ _ _ Rx' hix.out)
  go_wp2_with fail
  try rw [hV]
  clear hV hfz k0 k1 k2 k3 k4 k5 k6 k7 k8 k9 k10 k11 y0 y1 y2 y3 y4 y5 y6 y7 y8 y9 y10 y11 yf hXx hO HNX
  replace hb := hbV _ _ hb (by omega)
  replace Rx := rows_rng Rx (w' := V) (fun b h1 h2 => hfV b (by omega))
  have gX2 := lt_of_heap hX
  replace hX : MBox V _ _ := (hfV _ (by omega)).trans hX
  clear hbV hfV
  exact hnext ((os.set P k_).set Q x') _ _ _ _ _ _ _ _ _ _ _ _ _ _ _ _ _ _ _ _ _ _ _ _ _ _ _ _ _ _ _ _ _ _ _ _ _ _ _ _ _ _ _ _ _ _ _ _ _ _ _ _ _ _ _ _ _ _ _ _ _ _ _ _ _ _ _ _ _ _ _ _ _ _ _ _ (by omega) hO3 hb (by omega) ⟨hX, Rx⟩ hI3.out
 case o3 =>
  go_simp
  obtain ⟨y7, hw_, hV9, hB, hl_⟩ := alloc_z y1
  rw [hw_]
  clear hw_
  replace kp_ := Keeps.on kp_ (by omega) hB
  replace b_ := b_.trans (hB.mono (by omega))
  have ly7 : y1.heap.size ≤ y7.heap.size := hB.size
  replace RQ := RQ.on hB
  replace RS := RS.on hB
  clear hB
  refine hK _ _ ⟨fun _ _ => kp_, ?_⟩
  clear hK K
  try simp only [Act.put, zp]
  refine stepK (i := 5) (L := #[zT,zT,zT,zT,zT,zT,zF,zF,zF,zT,zF,zF]) rfl (by rfl) (by kernel_rfl) (by rfl) (fun K hK => ?_)
  go_simp
  go_at_call 13
  refine (Take_num y7 dQ s_ RQ RS (hT.below (hb.trans (b_.mono (by omega))) hT.lt) T 0 HTK.out).mono ?_
  rintro e' y8 ⟨x', rfl, hB, ix, rx⟩
  replace ix := Lib.hid ix
  replace kp_ := Keeps.on kp_ (by omega) hB
  replace b_ := b_.trans (hB.mono (by omega))
  have ly8 : y7.heap.size ≤ y8.heap.size := hB.size
  replace hV9 := box_on hV9 hB (lt_of_heap hV9)
  replace RQ := RQ.on hB
  replace RS := RS.on hB
  clear hB
  refine hK _ _ ⟨fun _ _ => kp_, ?_⟩
  clear hK K
  try simp only [Act.put, zp]
  refine pureE (i := 6) (L := #[zT,zT,zT,zT,zT,zT,zT,zF,zF,zT,zF,zF]) (v := ?_) rfl (by rfl) (by kernel_rfl) (by kernel_rfl) (by kernel_rfl) (fun _ _ _ h => hpan (by rfl) h) (by rfl) ?hy23 ?rest23
  case hy23 => intro w; go_simp; (try with_reducible rfl)
  try simp only [Act.put, zp]
  refine pureE (i := 7) (L := #[zT,zT,zT,zT,zT,zT,zT,zT,zF,zT,zF,zF]) (v := ?_) rfl (by rfl) (by kernel_rfl) (by kernel_rfl) (by kernel_rfl) (fun _ _ _ h => hpan (by rfl) h) (by rfl) ?hy24 ?rest24
  case hy24 => intro w; go_simp; (try with_reducible rfl)
  try simp only [Act.put, zp]
  refine pureE (i := 8) (L := #[zT,zT,zT,zT,zT,zT,zT,zT,zT,zT,zF,zF]) (v := ?_) rfl (by rfl) (by kernel_rfl) (by kernel_rfl) (by kernel_rfl) (fun _ _ _ h => hpan (by rfl) h) (by rfl) ?hy25 ?rest25
  case hy25 => intro w; go_simp; (try with_reducible rfl)
  try simp only [Act.put, zp]
  obtain ⟨⟨z0, z1, z2, z3, z4, z5, z6, z7, z8, z9, z10, z11⟩, zf⟩ := MBox.cells hV9
  obtain ⟨y9, hw_, n_, hb_, hf_, ly9, l2y9⟩ := all_to hV9 x'
  refine stepK (i := 10) (L := #[zT,zT,zT,zT,zT,zT,zT,zT,zT,zT,zT,zF]) rfl (by rfl) (by kernel_rfl) (by rfl) (fun K hK => ?_)
  go_simp
  try rw [hw_]
  replace kp_ : Keeps _ y9 := fun p hp => (hf_ _ (by omega)).trans (kp_ p hp)
  replace b_ := hb_ _ _ b_ (by omega)
  refine hK _ _ ⟨fun _ _ => kp_, ?_⟩
  clear hK K hw_ z0 z1 z2 z3 z4 z5 z6 z7 z8 z9 z10 z11 zf hb_
  try simp only [Act.put, zp]
  replace hV9 : MBox y9 _ _ := n_
  replace rx := rows_rng rx (w' := y9) (fun b h1 h2 => hf_ b (by omega))
  clear hf_
  refine pureE (i := 11) (L := #[zT,zT,zT,zT,zT,zT,zT,zT,zT,zT,zT,zT]) (v := ?_) rfl (by rfl) (by kernel_rfl) (by kernel_rfl) (by kernel_rfl) (fun _ _ _ h => hpan (by rfl) h) (by rfl) ?hy27 ?rest27
  case hy27 => intro w; go_simp; (try with_reducible rfl)
  try simp only [Act.put, zp]
  refine doneE (by kernel_rfl) ?_ _
  have hB := b_
  have l25 : U.heap.size ≤ y1.heap.size := by omega
  have hXx := hV9
  have Rx' := rx.more (lo' := U.heap.size) (hi' := y9.heap.size) (by omega) (by omega)
  have hix := Lib.hid ix.out
  have ly9 : U.heap.size ≤ y9.heap.size := hB.size
  replace hO := hO.on hB
  replace hb := hb.trans (hB.mono (by omega))
  replace Rx := Rx.below hB (by omega)
  replace hX := box_on hX hB (lt_of_heap hX)
  clear hB
  have l25' := lt_of_heap hXx
  obtain ⟨V, hV, hO3, hbV, hfV, lV, lV'⟩ := hO.put ho.out hQ2 x' (Rx'.more (Nat.zero_le _) (Nat.le_refl _)) (rows_off Rx' fun k hk => by
   injection hk with hk
   exact .inl (by omega))
  have hfz := fun k => hO.frz ho.out k
  obtain ⟨k0, k1, k2, k3, k4, k5, k6, k7, k8, k9, k10, k11⟩ := hO.mcells ho.out hQ2
  obtain ⟨⟨y0, y1, y2, y3, y4, y5, y6, y7, y8, y9, y10, y11⟩, yf⟩ := MBox.cells hXx
  have hI3 : Hid (Keep 240 (200 + (j + 1)) ((os.set P k_).set Q x') sm (8 * 2 ^ kE) all low high zR) := Lib.hid (HNX.out _ _ _ _ Rx' hix.out)
  go_wp2_with fail
  try rw [hV]
  clear hV hfz k0 k1 k2 k3 k4 k5 k6 k7 k8 k9 k10 k11 y0 y1 y2 y3 y4 y5 y6 y7 y8 y9 y10 y11 yf hXx hO HNX
  replace hb := hbV _ _ hb (by omega)
  replace Rx := rows_rng Rx (w' := V) (fun b h1 h2 => hfV b (by omega))
  have gX2 := lt_of_heap hX
  replace hX : MBox V _ _ := (hfV _ (by omega)).trans hX
  clear hbV hfV
  exact hnext ((os.set P k_).set Q x') _ _ _ _ _ _ _ _ _ _ _ _ _ _ _ _ _ _ _ _ _ _ _ _ _ _ _ _ _ _ _ _ _ _ _ _ _ _ _ _ _ _ _ _ _ _ _ _ _ _ _ _ _ _ _ _ _ _ _ _ _ _ _ _ _ _ _ _ _ _ _ _ _ _ _ _ (by omega) hO3 hb (by omega) ⟨hX, Rx⟩ hI3.out
end Ma
end Go.Proofs.YtbbnbgllgomolaaDoor
namespace Go.Proofs.YtbbnbgllgomolaaDoor
open Go.RowKit
namespace Ma
open Dp Dy
/-- A whole list has been appended onto an empty own one. -/
theorem own_all {w w2 : World} {A A3 : Option Addr} {n c3 : Nat} {ms : List Mv} (hL : LMs w 0 w.heap.size A n ms) (hb : Below w.heap.size w w2) (hown : w2.ownsRow w.heap.size 26 12 (.slice A3 n c3) n (flatM ms)) : OwnM w2 w.heap.size (.slice A3 n c3) n ms := by
 have hr : ∀ m ∈ ms, MRows w2 0 w.heap.size m := fun m hm => by
  obtain ⟨j, hj, rfl⟩ := List.mem_iff_getElem.1 hm
  exact (hL.rows j hj).below hb (Nat.le_refl _)
 exact ⟨hown, hL.len, fun m hm => (hr m hm).more (Nat.le_refl _) hb.size, fun m hm => rows_off (hr m hm) fun k hk => .inr (hown.lt k hk).1⟩
set_option maxHeartbeats 102400000 in
set_option maxRecDepth 100000 in
theorem keeps_walk (w : World) (A : Option Addr) (n c : Nat) (ms : List Mv) (hL : LMs w 0 w.heap.size A n ms) (low : Int) (hlw : (Lit.int .i64 low).wf = true) (high : Int) (hhw : (Lit.int .i64 high).wf = true) (A1 : Option Addr) (n1 c1 : Nat) (xs1 : List Int) (hx1 : Ints w 0 w.heap.size .i64 A1 n1 xs1) (A2 : Option Addr) (n2 c2 : Nat) (xs2 : List Int) (hx2 : Ints w 0 w.heap.size .i64 A2 n2 xs2) (hT : Tab w) :
  Calls Tryd.prog 8 #[.slice A n c, .int .i64 low, .int .i64 high, .slice A1 n1 c1, .slice A2 n2 c2] w fun e w' => e = .returned (.bool true) ∧ Below w.heap.size w w' := by
 have HL := Lib.hid hL.len
 obtain ⟨i0, hi0, hz0, hz1, hz2⟩ := info_parts infoM
 have g0 := hT.lt
 go_enter Tryd.func8, Tryd.ntmps8
 go_wp2_with fail
 refine (alive15_any w hT).mono ?_
 rintro e w1 ⟨rfl, hb⟩
 by_cases hn8 : 8 < n
 · go_wp2
   go_ret
   exact ⟨rfl, hb⟩
 by_cases hn40 : 40 < n1
 · go_wp2
   go_ret
   exact ⟨rfl, hb⟩
 have hCl := ((hL.below hb (Nat.le_refl _)).below ((Below.refl w1.heap.size w1).alloc (Nat.le_refl _) (.cells #[] 26)) hb.size).cells
 go_wp2_with (first
  | (at_builtin; go_loud (refine wpList_append_cells rfl (.tmp 46) (.tmp 47) 59 rfl w.heap.size 26 i0 _ 12 160 Tryd.underlying59 hi0 hz0 hz1 hz2 rfl (by decide) _ 0 [] rfl (Pa.own_emptyg w1 _ w.heap.size _ 12 rfl hb.size) A n c (flatM ms) rfl hCl (flatM_one' _) ?c2 ?c3 ?c4 ?_)))
 case c2 => unfold maxLen; omega
 case c3 => omega
 case c4 =>
  have := hb.size
  simp
  omega
 intro A3 c3 w2 hown hg3 _
 have hb2 : Below w.heap.size w w2 := (hb.alloc hb.size _).grown hg3 (by have := hb.size; simp; omega) (fun q hq => by simp [Value.ownBlock] at hq; have := hb.size; omega)
 have hO := own_all hL hb2 hown
 clear hCl hown hg3 hb
 have hb := hb2
 clear hb2
 go_wp2
 go_loopw [10, 13, 14, 15, 16] (fun ev av iv _ _ wr => ∃ (i : Nat) (os : List Mv) (all : Bool), iv = .int .i64 i ∧ ev = .bool false ∧ av = .bool all ∧ i ≤ n ∧ OwnM wr w.heap.size (.slice A3 n c3) n os ∧ Below w.heap.size w wr ∧ Hid (Upto i os all low high)) (fun _ _ iv _ _ _ => n - (intOf iv).toNat)
 case atStart => exact ⟨0, ms, true, rfl, rfl, rfl, Nat.zero_le _, hO, hb, Lib.hid (Upto.start _ _ _)⟩
 case round =>
  clear hb hO
  obtain ⟨i, os, all, rfl, rfl, rfl, hi1, hO, hb, hU⟩ := hrel
  have hLr := hL.below hb (Nat.le_refl _)
  have lw := hb.size
  by_cases hlt : i < n
  · have hi2 : i < ms.length := by rw [HL.out]; exact hlt
    obtain ⟨b, off, hA, h1, h2, hc⟩ := hLr.row (by omega)
    have hci := hc i hi2
    have hri := hLr.rows i hi2
    obtain ⟨d, hd⟩ : ∃ d, ms[i] = d := ⟨_, rfl⟩
    rw [hd] at hci hri
    clear hd hc hLr
    subst hA
    obtain ⟨g, o_, hAo, ho0, hg1, hg2⟩ := hO.addrK (by omega)
    subst hAo
    have ho := Lib.hid ho0
    clear ho0
    have hwri : IntKind.i64.wrap ((i : Int) + 1) = ((i + 1 : Nat) : Int) := by rw [IntKind.wrap_i64]; omega
    have hiO : i < os.length := by rw [hO.len]; exact hlt
    have hbw : b < w.heap.size := by omega
    have hciH := Lib.hid hci
    obtain ⟨k0, k1, k2, k3, k4, k5, k6, k7, k8, k9, k10, k11⟩ := hci
    go_wp2_with fail
    obtain ⟨q0, hq0⟩ : ∃ q, greatM d = q := ⟨_, rfl⟩
    refine (RGreat_any wr d hri q0 hq0).mono ?_
    rintro e w3 ⟨rfl, hB⟩
    clear k0 k1 k2 k3 k4 k5 k6 k7 k8 k9 k10 k11
    have l3 := hB.size
    replace hO := hO.on hB
    replace hb := hb.trans (hB.mono lw)
    replace hri := hri.below hB (by omega)
    replace hciH := Lib.hid (hciH.out.blk (hB.block _ (by omega)))
    clear hB hq0
    cases q0
    rotate_left
    · go_wp2
      go_ret
      exact ⟨rfl, hb⟩
    obtain ⟨k0, k1, k2, k3, k4, k5, k6, k7, k8, k9, k10, k11⟩ := hciH.out
    have e4 : w3.cell? ⟨b, off + i * 12 + 3 + 1, none⟩ = some (.slice d.W.A d.W.n d.W.c) := k4
    have e5 : w3.cell? ⟨b, off + i * 12 + 3 + 2, none⟩ = some (.int .i64 d.W.e) := k5
    by_cases q1 : 8 < d.S.n
    · go_wp2
      go_ret
      exact ⟨rfl, hb⟩
    by_cases q2 : 8 < d.W.n
    · go_wp2
      go_ret
      exact ⟨rfl, hb⟩
    by_cases q3 : 200 < d.S.e
    · go_wp2
      go_ret
      exact ⟨rfl, hb⟩
    by_cases q4 : 200 < d.W.e
    · go_wp2
      go_ret
      exact ⟨rfl, hb⟩
    obtain ⟨q5, hq5⟩ : ∃ q, badS [d] = q := ⟨_, rfl⟩
    go_wp2_with fail
    refine (PCheck_any w3 d (hri.more (Nat.le_refl _) (by omega)) q5 hq5).mono ?_
    rintro e w4 ⟨rfl, hB⟩
    clear k0 k1 k2 k3 k4 k5 k6 k7 k8 k9 k10 k11 e4 e5
    have l4 := hB.size
    replace hO := hO.on hB
    replace hb := hb.trans (hB.mono (by omega))
    replace hri := hri.below hB (by omega)
    replace hciH := Lib.hid (hciH.out.blk (hB.block _ (by omega)))
    clear hB
    cases q5
    rotate_left
    · go_wp2
      go_ret
      exact ⟨rfl, hb⟩
    have hBg : Begun (cutM d) := cut_begun hri (badS_one.1 hq5) (by omega) (by omega) (by omega) (by omega)
    have HBG := Lib.hid hBg
    clear hq5 hBg
    go_wp2_with fail
    refine region_E (fun W' : World => W'.heap[b]? = w4.heap[b]?) [] (m := 15) (L := #[zF,zF,zF,zF,zF,zF,zF,zF,zF,zF,zF,zF,zF,zF,zF]) (by kernel_rfl) (by rfl) (by rfl) ?_
    have hB : Below w4.heap.size w4 w4.drew := (Below.refl _ _).drew
    have kp0 : w4.drew.heap[b]? = w4.heap[b]? := rfl
    have l5 : w4.heap.size ≤ w4.drew.heap.size := Nat.le_refl _
    replace hO := hO.on hB
    replace hb := hb.trans (hB.mono (by omega))
    replace hri := hri.below hB (by omega)
    have hb4 : b < w4.heap.size := by omega
    have hg4 : g < w4.heap.size := by omega
    generalize w4.drew = w5 at *
    clear hB
    refine zE 0 #[zT,zF,zF,zF,zF,zF,zF,zF,zF,zF,zF,zF,zF,zF,zF] ?_ rfl ?hy28 ?rest28
    case hy28 => intro w; go_simp; (try with_reducible rfl)
    try simp only [Act.put, zp]
    refine zE 1 #[zT,zT,zF,zF,zF,zF,zF,zF,zF,zF,zF,zF,zF,zF,zF] ?_ rfl ?hy29 ?rest29
    case hy29 => intro w; go_simp; (try with_reducible rfl)
    try simp only [Act.put, zp]
    refine zE 2 #[zT,zT,zT,zF,zF,zF,zF,zF,zF,zF,zF,zF,zF,zF,zF] ?_ rfl ?hy30 ?rest30
    case hy30 => intro w; go_simp; (try with_reducible rfl)
    try simp only [Act.put, zp]
    refine zE 3 #[zT,zT,zT,zT,zF,zF,zF,zF,zF,zF,zF,zF,zF,zF,zF] ?_ rfl ?hy31 ?rest31
    case hy31 => intro w; go_simp; (try with_reducible rfl)
    try simp only [Act.put, zp]
    refine zE 4 #[zT,zT,zT,zT,zT,zF,zF,zF,zF,zF,zF,zF,zF,zF,zF] ?_ rfl ?hy32 ?rest32
    case hy32 => intro w; go_simp; (try with_reducible rfl)
    try simp only [Act.put, zp]
    refine zE 5 #[zT,zT,zT,zT,zT,zT,zF,zF,zF,zF,zF,zF,zF,zF,zF] ?_ rfl ?hy33 ?rest33
    case hy33 => intro w; go_simp; (try with_reducible rfl)
    try simp only [Act.put, zp]
    refine readE (i := 6) (L := #[zT,zT,zT,zT,zT,zT,zT,zF,zF,zF,zF,zF,zF,zF,zF]) (v := .agg #[.bool d.S.s, .slice d.S.A d.S.n d.S.c, .int .i64 d.S.e]) rfl (by rfl) (by kernel_rfl) (by kernel_rfl) (by kernel_rfl) (fun _ _ _ h => h) (by assumption) (by rfl) ?ya ?za
    case ya =>
     intro w' h1
     obtain ⟨k0, k1, k2, k3, k4, k5, k6, k7, k8, k9, k10, k11⟩ := hciH.out.blk h1
     go_simp
    try simp only [Act.put, zp]
    refine zE 7 #[zT,zT,zT,zT,zT,zT,zT,zT,zF,zF,zF,zF,zF,zF,zF] ?_ rfl ?hy35 ?rest35
    case hy35 => intro w; go_simp; (try with_reducible rfl)
    try simp only [Act.put, zp]
    refine zE 8 #[zT,zT,zT,zT,zT,zT,zT,zT,zT,zF,zF,zF,zF,zF,zF] ?_ rfl ?hy36 ?rest36
    case hy36 => intro w; go_simp; (try with_reducible rfl)
    try simp only [Act.put, zp]
    refine zE 9 #[zT,zT,zT,zT,zT,zT,zT,zT,zT,zT,zF,zF,zF,zF,zF] ?_ rfl ?hy37 ?rest37
    case hy37 => intro w; go_simp; (try with_reducible rfl)
    try simp only [Act.put, zp]
    refine zE 10 #[zT,zT,zT,zT,zT,zT,zT,zT,zT,zT,zT,zF,zF,zF,zF] ?_ rfl ?hy38 ?rest38
    case hy38 => intro w; go_simp; (try with_reducible rfl)
    try simp only [Act.put, zp]
    refine readE (i := 11) (L := #[zT,zT,zT,zT,zT,zT,zT,zT,zT,zT,zT,zT,zF,zF,zF]) (v := .agg #[.bool d.W.s, .slice d.W.A d.W.n d.W.c, .int .i64 d.W.e]) rfl (by rfl) (by kernel_rfl) (by kernel_rfl) (by kernel_rfl) (fun _ _ _ h => h) (by assumption) (by rfl) ?yb ?zb
    case yb =>
     intro w' h1
     obtain ⟨k0, k1, k2, k3, k4, k5, k6, k7, k8, k9, k10, k11⟩ := hciH.out.blk h1
     have e4 : w'.cell? ⟨b, off + i * 12 + 3 + 1, none⟩ = some (.slice d.W.A d.W.n d.W.c) := k4
     have e5 : w'.cell? ⟨b, off + i * 12 + 3 + 2, none⟩ = some (.int .i64 d.W.e) := k5
     go_simp
    try simp only [Act.put, zp]
    refine zE 12 #[zT,zT,zT,zT,zT,zT,zT,zT,zT,zT,zT,zT,zT,zF,zF] ?_ rfl ?hy40 ?rest40
    case hy40 => intro w; go_simp; (try with_reducible rfl)
    try simp only [Act.put, zp]
    refine zE 13 #[zT,zT,zT,zT,zT,zT,zT,zT,zT,zT,zT,zT,zT,zT,zF] ?_ rfl ?hy41 ?rest41
    case hy41 => intro w; go_simp; (try with_reducible rfl)
    try simp only [Act.put, zp]
    obtain ⟨M, hM⟩ : ∃ M : Mv, M = cutM d := ⟨_, rfl⟩
    obtain ⟨U, hUe, hO2, hbU, hfU, lU, lU'⟩ := hO.put ho.out hiO ⟨d.S, d.W, ⟨false, none, 0, 0, 0, []⟩, ⟨false, none, 0, 0, 0, []⟩⟩ ((cutM_rows hri).more (Nat.zero_le _) (by omega)) (rows_off (cutM_rows hri) fun k hk => by
     injection hk with hk
     exact .inr (by omega))
    have hfz := fun k => hO.frz ho.out k
    obtain ⟨k0, k1, k2, k3, k4, k5, k6, k7, k8, k9, k10, k11⟩ := hO.mcells ho.out hiO
    refine stepK (i := 14) (L := #[zT,zT,zT,zT,zT,zT,zT,zT,zT,zT,zT,zT,zT,zT,zT]) rfl (by rfl) (by kernel_rfl) (by rfl) (fun K hK => ?_)
    go_simp
    try rw [hUe]
    have kp1 : U.heap[b]? = w4.heap[b]? := (hfU b (by omega)).trans kp0
    refine hK _ _ ⟨fun _ _ => kp1, ?_⟩
    clear hK K hUe hfz kp0 kp1 k0 k1 k2 k3 k4 k5 k6 k7 k8 k9 k10 k11 hO
    try simp only [Act.put, zp]
    refine doneE (by kernel_rfl) ?_ _
    replace hb := hbU _ _ hb (by omega)
    have RM : MRows U 0 U.heap.size M := by
     rw [hM]
     exact rows_rng (cutM_rows hri) (w' := U) (fun j _ hj => hfU j (by omega)) |>.more (Nat.le_refl _) (by omega)
    have hO3 : OwnM U w.heap.size (.slice (some ⟨g, o_, none⟩) n c3) n (os.set i M) := by rw [hM]; exact hO2
    have HBG2 : Hid (Begun M) := Lib.hid (by rw [hM]; exact HBG.out)
    have hcM : MCells U g (o_ + i * 12) M := by
     have := hO3.mcells ho.out (q := i) (by simp; exact hiO)
     rw [List.getElem_set_self] at this
     exact this
    clear hM hO2 hbU hfU HBG hri hciH
    obtain ⟨⟨r, cf⟩, hbt⟩ : ∃ q, betweenM M low high = q := ⟨_, rfl⟩
    have HBT := Lib.hid hbt
    clear hbt
    obtain ⟨k0, k1, k2, k3, k4, k5, k6, k7, k8, k9, k10, k11⟩ := hcM
    go_wp2_with fail
    refine (Between_num U M low high hlw hhw RM (hT.below hb hT.lt) r cf HBT.out).mono ?_
    rintro e w6 ⟨rfl, hB⟩
    clear k0 k1 k2 k3 k4 k5 k6 k7 k8 k9 k10 k11
    have l6 := hB.size
    have hO4 := hO3.on hB
    replace hb := hb.trans (hB.mono (by omega))
    clear hB hO3
    cases all
    · have hN : Hid (Upto (i + 1) (os.set i M) false low high) := Lib.hid (hU.out.next HBG2.out RM HBT.out (fun h => by cases h))
      go_wp2
      go_roundw
      case rel => exact ⟨i + 1, os.set i M, false, by first | rfl | (congr 1; omega) | go_num, rfl, rfl, by omega, hO4, hb, hN⟩
      case measure => first | (simp [intOf]; done) | (simp [intOf]; omega)
    · cases r
      · have hN : Hid (Upto (i + 1) (os.set i M) false low high) := Lib.hid (hU.out.next HBG2.out RM HBT.out (fun h => by cases h))
        go_wp2
        go_roundw
        case rel => exact ⟨i + 1, os.set i M, false, by first | rfl | (congr 1; omega) | go_num, rfl, rfl, by omega, hO4, hb, hN⟩
        case measure => first | (simp [intOf]; done) | (simp [intOf]; omega)
      · by_cases hc0 : cf = 0
        · subst hc0
          have hN : Hid (Upto (i + 1) (os.set i M) true low high) := Lib.hid (hU.out.next HBG2.out RM HBT.out (fun _ => ⟨rfl, rfl, rfl⟩))
          go_wp2
          go_roundw
          case rel => exact ⟨i + 1, os.set i M, true, by first | rfl | (congr 1; omega) | go_num, rfl, rfl, by omega, hO4, hb, hN⟩
          case measure => first | (simp [intOf]; done) | (simp [intOf]; omega)
        · have hcb : (cf == 0) = false := by simpa using hc0
          have hN : Hid (Upto (i + 1) (os.set i M) false low high) := Lib.hid (hU.out.next HBG2.out RM HBT.out (fun h => by cases h))
          go_wp2
          go_roundw
          case rel => exact ⟨i + 1, os.set i M, false, by first | rfl | (congr 1; omega) | go_num, rfl, rfl, by omega, hO4, hb, hN⟩
          case measure => first | (simp [intOf]; done) | (simp [intOf]; omega)
  · have hin : i = n := by omega
    subst hin
    have hLo := hO.len
    have HLo := Lib.hid hLo
    have hOlt : ∀ k, (Value.slice A3 i c3).ownBlock = some k → k < wr.heap.size := fun k hk => (hO.own.lt k hk).2
    have hfit := Lib.hid hU.out.fit
    have hK0 := hU.out.keep hLo (by omega)
    obtain ⟨R, hsum, hRv⟩ := hK0.total (by decide) (by decide) keep_cap (by omega)
    obtain ⟨s0, hs0⟩ : ∃ s : Nat → Int, (fun x => sumX os x 240) = s := ⟨_, rfl⟩
    rw [hs0] at hK0
    have HK0 := Lib.hid hK0
    have HS := Lib.hid hsum
    have HRV : Hid (∀ x, x < 4 → (R x).e ≤ 240 ∧ (R x).May ∧ vl (R x) 240 = s0 x) := Lib.hid (by rw [← hs0]; exact hRv)
    clear hsum hRv hK0 hs0 hLo hU hLr
    obtain ⟨w3, hw3e⟩ : ∃ W : World, W = wr := ⟨_, rfl⟩
    subst hw3e
    go_wp2_with fail
    refine (MSum_any w3 _ i c3 os hO.lms (by omega) (hT.below hb hT.lt) R 0 HS.out).mono ?_
    rintro e w4 ⟨x, rfl, hB, hx, Rx⟩
    replace hx := Lib.hid hx
    have l4 := hB.size
    replace hO := hO.on hB
    replace hb := hb.trans (hB.mono lw)
    clear hB
    obtain ⟨w5, hw5, hX, hB, l5⟩ := alloc_m w4 x
    replace hO := hO.on hB
    replace hb := hb.trans (hB.mono (by omega))
    replace Rx : MRows w5 w3.heap.size w4.heap.size x := Rx.below hB (Nat.le_refl _)
    clear hB
    have o1 : w3.heap.size ≤ w4.heap.size := by omega
    have o2 : w4.heap.size < w5.heap.size := by omega
    go_wp2
    try clear hw5
    go_loopw [10, 19, 20, 21, 22, 23, 24, 25, 26] (fun ev jv _ _ _ _ _ _ _ wr => ∃ (j : Nat) (os : List Mv), jv = .int .i64 j ∧ ev = .bool false ∧ j ≤ n1 ∧ OwnM wr w.heap.size (.slice A3 i c3) i os ∧ Below w.heap.size w wr ∧ w5.heap.size ≤ wr.heap.size ∧ (MBox wr w4.heap.size x ∧ MRows wr w3.heap.size w4.heap.size x) ∧ Hid (Keep 240 (200 + j) os s0 (8 * 2 ^ kE) (all = true) low high zR)) (fun _ jv _ _ _ _ _ _ _ _ => n1 - (intOf jv).toNat)
    case atStart => exact ⟨0, os, rfl, rfl, Nat.zero_le _, hO, hb, Nat.le_refl _, ⟨hX, Rx⟩, HK0⟩
    case round =>
     clear hO hb hX Rx HK0 HS HLo os
     obtain ⟨j, os, rfl, rfl, hj1, hO, hb, lw5, ⟨hX, Rx⟩, hI⟩ := hrel
     have lw2 := hb.size
     have HLo : Hid (os.length = i) := Lib.hid hO.len
     have hwrj : IntKind.i64.wrap ((j : Int) + 1) = ((j + 1 : Nat) : Int) := by rw [IntKind.wrap_i64]; omega
     refine keeps_round _ _ _ _ _ _ _ _ _ _ _ _ _ _ _ _ _ _ _ _ _ _ _ _ _ _ _ _ _ _ _ _ _ _ _ _ _ _ _ _ _ _ _ _ _ _ _ _ _ _ _ _ _ _ _ _ _ _ _ _ _ _ _ _ _ _ _ _ _ _ _ _ _ _ _ _ _ _ _ _ _ _ _ _ _ _ _ _ _ _ _ _ _ _ _ _ _ _ _ _ _ _ _ _ _ _ _ _ _ _ _ _ _ _ _ _ _ _ _ _ _ _ _ _ _ _ _ _ _ _ _ _ _ _ _ _ _ _ _ _ _ _ _ _ _ _ _ _ _ _ _ _ _ _ _ _ _ _ _ _ _ _ _ _ _ _ _ _ _ _ _ _ _ _ _ _ _ _ _ _ _ _ _ _ _ _ _ _ _ _ _ _ _ _ _ _ _ _ _ _ _ _ _ _ _ _ _ _ _ _ _ _ _ _ _ _ _ _ _ _ _ _ _ _ _ _ _ _ _ _ _ _ _ _ _ _ _ _ _ _ _ _ _ _ _ _ _ _ _ _ _ _ _ _ _ _ _ _ _ (fun e h => ⟨e.symm.trans h.1, h.2⟩) w hT A1 A2 A3 n1 c1 n2 c2 i c3 xs1 xs2 hx1 hx2 hn8 hn40 w3.heap.size w4.heap.size w5.heap.size lw o1 o2 hOlt x s0 (all = true) low high j os wr hj1 hO hb lw5 ⟨hX, Rx⟩ hI.out ?_ ?_
     · intro t20 t21 t22 t23 t24 t25 t26 t144 t145 t146 t147 t148 t149 t150 t151 t152 t153 t154 t155 t156 t157 t158 t159 t160 t161 t162 t163 t164 t165 t166 t167 t168 t169 t170 t171 t172 t173 t174 t175 t176 t177 t178 t179 t180 t181 t182 t183 t184 t185 t186 t187 t188 t189 t190 t191 t192 t193 t194 t195 t196 t197 t198 t199 t200 t201 t202 t203 t204 t205 t206 t207 t208 t209 t210 t211
       try simp only [Exit.then, Exit.inBlock, if_true]
       obtain ⟨R2, hs2, hR2⟩ := hI.out.total (by decide) (by omega) keep_cap (by rw [HLo.out]; omega)
       have HS2 := Lib.hid hs2
       have HR2 := Lib.hid hR2
       clear hs2 hR2
       go_wp2_with fail
       refine (MSum_any wr _ i c3 os hO.lms (by omega) (hT.below hb hT.lt) R2 0 HS2.out).mono ?_
       rintro e v1 ⟨y, rfl, hB, hy, Ry⟩
       replace hy := Lib.hid hy
       have lv1 := hB.size
       replace hO := hO.on hB
       replace hb := hb.trans (hB.mono (by omega))
       replace Rx := Rx.below hB (by omega)
       replace hX := box_on hX hB (lt_of_heap hX)
       clear hB
       obtain ⟨v2, hv2, hY, hB2, lv2⟩ := alloc_m v1 y
       replace hO := hO.on hB2
       replace hb := hb.trans (hB2.mono (by omega))
       replace Rx := Rx.below hB2 (by omega)
       replace hX := box_on hX hB2 (lt_of_heap hX)
       replace Ry : MRows v2 wr.heap.size v1.heap.size y := Ry.below hB2 (Nat.le_refl _)
       clear hB2
       obtain ⟨⟨k0, k1, k2, k3, k4, k5, k6, k7, k8, k9, k10, k11⟩, kf⟩ := MBox.cells hX
       obtain ⟨⟨y0, y1, y2, y3, y4, y5, y6, y7, y8, y9, y10, y11⟩, yf⟩ := MBox.cells hY
       go_wp2_with fail
       try clear hv2
       refine (MSame_any v2 x y (Rx.more (Nat.zero_le _) (by omega)) (Ry.more (Nat.zero_le _) (by omega)) true (sums_same hx.out hy.out (fun z hz => ⟨(HRV.out z hz).1, (HRV.out z hz).2.1⟩) (fun z hz => ⟨(HR2.out z hz).1, (HR2.out z hz).2.1⟩) (fun z hz => (HRV.out z hz).2.2.trans (HR2.out z hz).2.2.symm))).mono ?_
       rintro e v3 ⟨rfl, hB⟩
       have lv3 := hB.size
       replace hO := hO.on hB
       replace hb := hb.trans (hB.mono (by omega))
       clear k0 k1 k2 k3 k4 k5 k6 k7 k8 k9 k10 k11 kf y0 y1 y2 y3 y4 y5 y6 y7 y8 y9 y10 y11 yf hB hX hY Rx Ry hx hy
       go_wp2
       go_loopw [10, 29, 30, 31] (fun ev kv _ _ wq => ∃ (k : Nat), kv = .int .i64 k ∧ ev = .bool false ∧ k ≤ i ∧ OwnM wq w.heap.size (.slice A3 i c3) i os ∧ Below w.heap.size w wq) (fun _ kv _ _ _ => i - (intOf kv).toNat)
       case atStart => exact ⟨0, rfl, rfl, Nat.zero_le _, hO, hb⟩
       case round =>
        clear hO hb
        obtain ⟨k, rfl, rfl, hk1, hO, hb⟩ := hrel
        have lwr := hb.size
        by_cases hk : k < i
        rotate_left
        · go_wp2
          go_ret
          exact ⟨rfl, hb⟩
        · have hwrk : IntKind.i64.wrap ((k : Int) + 1) = ((k + 1 : Nat) : Int) := by rw [IntKind.wrap_i64]; omega
          have hkO : k < os.length := by rw [HLo.out]; omega
          obtain ⟨g, o_, hAo, ho0, hg1, hg2⟩ := hO.addrK (by omega)
          subst hAo
          have ho := Lib.hid ho0
          clear ho0
          obtain ⟨d, hd⟩ : ∃ d, os[k] = d := ⟨_, rfl⟩
          have Rd : MRows wr 0 wr.heap.size d := by rw [← hd]; exact hO.rows _ (List.getElem_mem hkO)
          have hmem : d ∈ os := by rw [← hd]; exact List.getElem_mem hkO
          obtain ⟨t1, t2⟩ := hI.out.tells hmem Rd (fun ha => hfit.out ha (by omega))
          have T2 := Lib.hid t2
          have T1 := Lib.hid t1
          have hcM : MCells wr g (o_ + k * 12) d := by rw [← hd]; exact hO.mcells ho.out hkO
          have HCM := Lib.hid hcM
          clear hd hmem t1 t2
          obtain ⟨r, cf, hbt⟩ : ∃ r c, betweenM d low high = (r, c) := ⟨_, _, rfl⟩
          have HBT := Lib.hid hbt
          clear hbt
          obtain ⟨k0, k1, k2, k3, k4, k5, k6, k7, k8, k9, k10, k11⟩ := hcM
          go_wp2_with fail
          refine (Between_num wr d low high hlw hhw Rd (hT.below hb hT.lt) r cf HBT.out).mono ?_
          rintro e v4 ⟨rfl, hB⟩
          clear k0 k1 k2 k3 k4 k5 k6 k7 k8 k9 k10 k11
          have lv4 := hB.size
          replace hO := hO.on hB
          replace hb := hb.trans (hB.mono (by omega))
          replace Rd := Rd.below hB (Nat.le_refl _)
          have hcM := HCM.out.blk (hB.block _ (by omega))
          clear hB HCM
          obtain ⟨k0, k1, k2, k3, k4, k5, k6, k7, k8, k9, k10, k11⟩ := hcM
          go_wp2_with fail
          refine (PCheck_any v4 d (Rd.more (Nat.le_refl _) (by omega)) false T1.out).mono ?_
          rintro e v5 ⟨rfl, hB⟩
          clear k0 k1 k2 k3 k4 k5 k6 k7 k8 k9 k10 k11
          replace hO := hO.on hB
          replace hb := hb.trans (hB.mono (by omega))
          clear hB
          cases all
          · go_wp2
            go_roundw
            case rel => exact ⟨k + 1, by first | rfl | (congr 1; omega) | go_num, rfl, by omega, hO, hb⟩
            case measure => first | (simp [intOf]; done) | (simp [intOf]; omega)
          · have hrc := HBT.out.symm.trans (T2.out rfl)
            injection hrc with hr0 hc0
            subst hr0 hc0
            go_wp2
            go_roundw
            case rel => exact ⟨k + 1, by first | rfl | (congr 1; omega) | go_num, rfl, by omega, hO, hb⟩
            case measure => first | (simp [intOf]; done) | (simp [intOf]; omega)
     · intro os' t20 t21 t22 t23 t24 t25 t26 t144 t145 t146 t147 t148 t149 t150 t151 t152 t153 t154 t155 t156 t157 t158 t159 t160 t161 t162 t163 t164 t165 t166 t167 t168 t169 t170 t171 t172 t173 t174 t175 t176 t177 t178 t179 t180 t181 t182 t183 t184 t185 t186 t187 t188 t189 t190 t191 t192 t193 t194 t195 t196 t197 t198 t199 t200 t201 t202 t203 t204 t205 t206 t207 t208 t209 t210 t211 w' hj' hO' hb' lw' hXR' hK'
       simp only [Exit.then]
       refine ⟨⟨_, _, _, _, _, _, _, _, _, _, _, _, _, _, _, _, _, _, _, _, _, _, _, _, _, _, _, _, _, _, _, _, _, _, _, _, _, _, _, _, _, _, _, _, _, _, _, _, _, _, _, _, _, _, _, _, _, _, _, _, _, _, _, _, _, _, _, _, _, _, _, _, _, _, _, _, _, ⟨j + 1, os', rfl, rfl, hj', hO', hb', lw', hXR', Lib.hid hK'⟩, rfl⟩, ?_⟩
       first | (simp [intOf]; done) | (simp [intOf]; omega)
end Ma
end Go.Proofs.YtbbnbgllgomolaaDoor