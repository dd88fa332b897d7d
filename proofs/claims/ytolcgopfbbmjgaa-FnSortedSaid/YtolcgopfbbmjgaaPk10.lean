/-
  Texts joined: Sw5, Sw6, Sw7.
-/
import Derived.Test.YtolcgopfbbmjgaaPk9
import Derived.Deep.DeepCutAuto
import Derived.Deep.CutRange
/-
  The library's stable sort at operations: symMerge's last statements.
-/
namespace Go.Proofs.Ytolcgopfbbmjgaa
set_option linter.unusedVariables false
set_option linter.unusedSimpArgs false
open Go.RowKit Go.Lib Go.Sort

/-- What follows the first n statements, and the statement there. -/
def seqAt : Code → Nat → Code
  | .seq _ b, n + 1 => seqAt b n
  | c, _ => c
def headAt : Code → Nat → Code
  | .seq _ b, n + 1 => headAt b n
  | .seq a _, 0 => a
  | c, _ => c
def bodyOf (f : Func) : Code := match f.body with | some c => c | none => .skip

/-- What symMerge does where the two halves are shorter than K together. -/
def SymIH (w : World) (blk off cap : Nat) (d0 : Array Opr) (g : Nat) (cb : Array Value) (key : Opr → Int) (K : Nat) : Prop :=
  ∀ (m0 : Nat) (d : Array Opr) (os : Array Obj), d.size = d0.size → ∀ (X L R Y : List Opr), d.toList = X ++ (L ++ (R ++ Y)) → 0 < L.length → 0 < R.length → L.length + R.length < K → Srt key L → Srt key R →
  ∀ (a m b N : Nat), a = X.length → m = a + L.length → b = m + R.length → N = d.size →
    Calls Try.prog 79 #[.slice (some ⟨blk, off, none⟩) N cap, .int .i64 (a : Int), .int .i64 (m : Int), .int .i64 (b : Int), .func (.func g) #[] cb] (SW w blk off m0 d os) (SymDid w blk off d0 key X L R Y)

set_option maxHeartbeats 8000000 in
set_option maxRecDepth 100000 in
theorem symS9 {w : World} {blk off cap : Nat} {d0 : Array Opr} (H : SwR w blk off d0) (g : Nat) (cb : Array Value) (m1 : Nat) (d : Array Opr) (o1 : Array Obj) (hd : d.size = d0.size) (X L1 U V Z : List Opr) (h : d.toList = X ++ (L1 ++ (U ++ (V ++ Z)))) (a m b N mid i en : Nat) (hi : i = X.length + L1.length) (hm : m = X.length + L1.length + U.length) (he : en = X.length + L1.length + U.length + V.length) (hN : N = d.size)
    (u5 u6 u7 u8 u9 u10 u11 u12 u13 u14 u15 u16 u17 u19 u21 u22 u23 u25 u26 u27 u28 u29 u30 u31 u32 u33 u34 u35 u36 u37 u38 u39 u40 u41 u42 u43 u44 u45 u46 u47 u48 u49 u50 u51 u52 u53 u54 u55 u56 u57 u58 u59 u60 u61 u62 u63 u64 u65 u66 u67 u68 u69 u70 u71 u72 u73 u74 u75 u76 u77 u78 u79 u80 u81 u82 u83 u84 u85 u86 u87 u88 u89 u90 u91 u92 u93 u94 u95 u96 u97 u98 u99 u100 u101 u102 u103 u104 u105 u106 u107 u108 u109 u110 u111 u112 u113 u114 u115 u116 u117 u118 u119 u120 u121 u122 u123 u124 u125 u126 u127 u128 u129 u130 u131 u132 u133 u134 u135 u136 u137 u138 u139 u140 u141 u142 u143 u144 u145 u146 u147 u148 u149 u150 u151 u152 u153 u154 u155 u156 u157 u158 u159 u160 u161 u162 u163 u164 u165 u166 u167 u168 u169 u170 u171 u172 u173 u174 u175 u176 u177 u178 u179 u180 u181 u182 u183 u184 u185 u186 u187 u188 u189 u190 u191 u192 u193 u194 u195 u196 u197 u198 u199 u200 u201 u202 u203 u204 u205 u206 u207 u208 u209 u210 u211 u212 u213 u214 u215 u216 u217 u218 u219 : Value) (K : Exit → Act → World → Prop)
    (hK : ∀ (u5 u6 u7 u8 u9 u10 u11 u12 u13 u14 u15 u16 u17 u19 u21 u22 u23 u25 u26 u27 u28 u29 u30 u31 u32 u33 u34 u35 u36 u37 u38 u39 u40 u41 u42 u43 u44 u45 u46 u47 u48 u49 u50 u51 u52 u53 u54 u55 u56 u57 u58 u59 u60 u61 u62 u63 u64 u65 u66 u67 u68 u69 u70 u71 u72 u73 u74 u75 u76 u77 u78 u79 u80 u81 u82 u83 u84 u85 u86 u87 u88 u89 u90 u91 u92 u93 u94 u95 u96 u97 u98 u99 u100 u101 u102 u103 u104 u105 u106 u107 u108 u109 u110 u111 u112 u113 u114 u115 u116 u117 u118 u119 u120 u121 u122 u123 u124 u125 u126 u127 u128 u129 u130 u131 u132 u133 u134 u135 u136 u137 u138 u139 u140 u141 u142 u143 u144 u145 u146 u147 u148 u149 u150 u151 u152 u153 u154 u155 u156 u157 u158 u159 u160 u161 u162 u163 u164 u165 u166 u167 u168 u169 u170 u171 u172 u173 u174 u175 u176 u177 u178 u179 u180 u181 u182 u183 u184 u185 u186 u187 u188 u189 u190 u191 u192 u193 u194 u195 u196 u197 u198 u199 u200 u201 u202 u203 u204 u205 u206 u207 u208 u209 u210 u211 u212 u213 u214 u215 u216 u217 u218 u219 : Value) (m2 : Nat) (d2 : Array Opr) (o2 : Array Obj), d2.size = d0.size → d2.toList = X ++ (L1 ++ (V ++ (U ++ Z))) → K .normal { tmps := #[.slice (some ⟨blk, off, none⟩) N cap, .int .i64 (a : Int), .int .i64 (m : Int), .int .i64 (b : Int), .func (.func g) #[] cb, u5, u6, u7, u8, u9, u10, u11, u12, u13, u14, u15, u16, u17, .int .i64 (mid : Int), u19, .int .i64 (i : Int), u21, u22, u23, .int .i64 (en : Int), u25, u26, u27, u28, u29, u30, u31, u32, u33, u34, u35, u36, u37, u38, u39, u40, u41, u42, u43, u44, u45, u46, u47, u48, u49, u50, u51, u52, u53, u54, u55, u56, u57, u58, u59, u60, u61, u62, u63, u64, u65, u66, u67, u68, u69, u70, u71, u72, u73, u74, u75, u76, u77, u78, u79, u80, u81, u82, u83, u84, u85, u86, u87, u88, u89, u90, u91, u92, u93, u94, u95, u96, u97, u98, u99, u100, u101, u102, u103, u104, u105, u106, u107, u108, u109, u110, u111, u112, u113, u114, u115, u116, u117, u118, u119, u120, u121, u122, u123, u124, u125, u126, u127, u128, u129, u130, u131, u132, u133, u134, u135, u136, u137, u138, u139, u140, u141, u142, u143, u144, u145, u146, u147, u148, u149, u150, u151, u152, u153, u154, u155, u156, u157, u158, u159, u160, u161, u162, u163, u164, u165, u166, u167, u168, u169, u170, u171, u172, u173, u174, u175, u176, u177, u178, u179, u180, u181, u182, u183, u184, u185, u186, u187, u188, u189, u190, u191, u192, u193, u194, u195, u196, u197, u198, u199, u200, u201, u202, u203, u204, u205, u206, u207, u208, u209, u210, u211, u212, u213, u214, u215, u216, u217, u218, u219], defers := [] } (SW w blk off m2 d2 o2)) :
    Code.wp Try.prog (headAt (bodyOf Try.f79) 9) K { tmps := #[.slice (some ⟨blk, off, none⟩) N cap, .int .i64 (a : Int), .int .i64 (m : Int), .int .i64 (b : Int), .func (.func g) #[] cb, u5, u6, u7, u8, u9, u10, u11, u12, u13, u14, u15, u16, u17, .int .i64 (mid : Int), u19, .int .i64 (i : Int), u21, u22, u23, .int .i64 (en : Int), u25, u26, u27, u28, u29, u30, u31, u32, u33, u34, u35, u36, u37, u38, u39, u40, u41, u42, u43, u44, u45, u46, u47, u48, u49, u50, u51, u52, u53, u54, u55, u56, u57, u58, u59, u60, u61, u62, u63, u64, u65, u66, u67, u68, u69, u70, u71, u72, u73, u74, u75, u76, u77, u78, u79, u80, u81, u82, u83, u84, u85, u86, u87, u88, u89, u90, u91, u92, u93, u94, u95, u96, u97, u98, u99, u100, u101, u102, u103, u104, u105, u106, u107, u108, u109, u110, u111, u112, u113, u114, u115, u116, u117, u118, u119, u120, u121, u122, u123, u124, u125, u126, u127, u128, u129, u130, u131, u132, u133, u134, u135, u136, u137, u138, u139, u140, u141, u142, u143, u144, u145, u146, u147, u148, u149, u150, u151, u152, u153, u154, u155, u156, u157, u158, u159, u160, u161, u162, u163, u164, u165, u166, u167, u168, u169, u170, u171, u172, u173, u174, u175, u176, u177, u178, u179, u180, u181, u182, u183, u184, u185, u186, u187, u188, u189, u190, u191, u192, u193, u194, u195, u196, u197, u198, u199, u200, u201, u202, u203, u204, u205, u206, u207, u208, u209, u210, u211, u212, u213, u214, u215, u216, u217, u218, u219], defers := [] } (SW w blk off m1 d o1) := by
  have HH := Lib.hid H
  have HK := Lib.hid hK
  have HD := Lib.hid h
  have HD0 := Lib.hid hd
  have HN := Lib.hid hN
  have HA := Lib.hid (show i = (X ++ L1).length ∧ m = (X ++ L1).length + U.length ∧ en = (X ++ L1).length + U.length + V.length by rw [List.length_append]; omega)
  clear H hK h hd hN hi hm he
  dsimp only [headAt, bodyOf, Try.f79]
  by_cases h1 : i < m
  · by_cases h2 : m < en
    · have hC := fun cap => rotate_any (cap := cap) HH.out m1 d o1 HD0.out (X ++ L1) U V Z (by rw [HD.out]; simp) (by have := HA.out; omega) (by have := HA.out; omega) i m en N HA.out.1 HA.out.2.1 HA.out.2.2 HN.out (.func (.func g) #[] cb)
      have HC2 := Lib.hid hC
      clear hC
      go_wp2_with (go_at_call 88; refine (HC2.out _).mono ?_; rintro e w' ⟨rfl, m2, d2, o2, hw2, hs2, hl2⟩)
      subst hw2
      exact HK.out _ _ _ _ _ _ _ _ _ _ _ _ _ _ _ _ _ _ _ _ _ _ _ _ _ _ _ _ _ _ _ _ _ _ _ _ _ _ _ _ _ _ _ _ _ _ _ _ _ _ _ _ _ _ _ _ _ _ _ _ _ _ _ _ _ _ _ _ _ _ _ _ _ _ _ _ _ _ _ _ _ _ _ _ _ _ _ _ _ _ _ _ _ _ _ _ _ _ _ _ _ _ _ _ _ _ _ _ _ _ _ _ _ _ _ _ _ _ _ _ _ _ _ _ _ _ _ _ _ _ _ _ _ _ _ _ _ _ _ _ _ _ _ _ _ _ _ _ _ _ _ _ _ _ _ _ _ _ _ _ _ _ _ _ _ _ _ _ _ _ _ _ _ _ _ _ _ _ _ _ _ _ _ _ _ _ _ _ _ _ _ _ _ _ _ _ _ _ _ _ _ _ _ _ _ _ _ _ _ _ _ _ m2 d2 o2 hs2 (by rw [hl2]; simp)
    · have hv : V = [] := List.eq_nil_of_length_eq_zero (by have := HA.out; omega)
      go_wp2_with fail
      exact HK.out _ _ _ _ _ _ _ _ _ _ _ _ _ _ _ _ _ _ _ _ _ _ _ _ _ _ _ _ _ _ _ _ _ _ _ _ _ _ _ _ _ _ _ _ _ _ _ _ _ _ _ _ _ _ _ _ _ _ _ _ _ _ _ _ _ _ _ _ _ _ _ _ _ _ _ _ _ _ _ _ _ _ _ _ _ _ _ _ _ _ _ _ _ _ _ _ _ _ _ _ _ _ _ _ _ _ _ _ _ _ _ _ _ _ _ _ _ _ _ _ _ _ _ _ _ _ _ _ _ _ _ _ _ _ _ _ _ _ _ _ _ _ _ _ _ _ _ _ _ _ _ _ _ _ _ _ _ _ _ _ _ _ _ _ _ _ _ _ _ _ _ _ _ _ _ _ _ _ _ _ _ _ _ _ _ _ _ _ _ _ _ _ _ _ _ _ _ _ _ _ _ _ _ _ _ _ _ _ _ _ _ _ m1 d o1 HD0.out (by rw [HD.out, hv]; simp)
  · have hu : U = [] := List.eq_nil_of_length_eq_zero (by have := HA.out; omega)
    go_wp2_with fail
    exact HK.out _ _ _ _ _ _ _ _ _ _ _ _ _ _ _ _ _ _ _ _ _ _ _ _ _ _ _ _ _ _ _ _ _ _ _ _ _ _ _ _ _ _ _ _ _ _ _ _ _ _ _ _ _ _ _ _ _ _ _ _ _ _ _ _ _ _ _ _ _ _ _ _ _ _ _ _ _ _ _ _ _ _ _ _ _ _ _ _ _ _ _ _ _ _ _ _ _ _ _ _ _ _ _ _ _ _ _ _ _ _ _ _ _ _ _ _ _ _ _ _ _ _ _ _ _ _ _ _ _ _ _ _ _ _ _ _ _ _ _ _ _ _ _ _ _ _ _ _ _ _ _ _ _ _ _ _ _ _ _ _ _ _ _ _ _ _ _ _ _ _ _ _ _ _ _ _ _ _ _ _ _ _ _ _ _ _ _ _ _ _ _ _ _ _ _ _ _ _ _ _ _ _ _ _ _ _ _ _ _ _ _ _ m1 d o1 HD0.out (by rw [HD.out, hu]; simp)

set_option maxHeartbeats 8000000 in
set_option maxRecDepth 100000 in
theorem symS10 {w : World} {blk off cap : Nat} {d0 : Array Opr} (H : SwR w blk off d0) {g : Nat} {cb : Array Value} {key : Opr → Int} {k0 : Nat} (IH : SymIH w blk off cap d0 g cb key k0) (m1 : Nat) (d : Array Opr) (o1 : Array Obj) (hd : d.size = d0.size) (X L1 V Z : List Opr) (h : d.toList = X ++ (L1 ++ (V ++ Z))) (s1 : Srt key L1) (s2 : Srt key V) (a m b N mid i en : Nat) (ha : a = X.length) (hi : i = X.length + L1.length) (hmd : mid = X.length + L1.length + V.length) (hk0 : L1.length + V.length < k0) (hN : N = d.size)
    (u5 u6 u7 u8 u9 u10 u11 u12 u13 u14 u15 u16 u17 u19 u21 u22 u23 u25 u26 u27 u28 u29 u30 u31 u32 u33 u34 u35 u36 u37 u38 u39 u40 u41 u42 u43 u44 u45 u46 u47 u48 u49 u50 u51 u52 u53 u54 u55 u56 u57 u58 u59 u60 u61 u62 u63 u64 u65 u66 u67 u68 u69 u70 u71 u72 u73 u74 u75 u76 u77 u78 u79 u80 u81 u82 u83 u84 u85 u86 u87 u88 u89 u90 u91 u92 u93 u94 u95 u96 u97 u98 u99 u100 u101 u102 u103 u104 u105 u106 u107 u108 u109 u110 u111 u112 u113 u114 u115 u116 u117 u118 u119 u120 u121 u122 u123 u124 u125 u126 u127 u128 u129 u130 u131 u132 u133 u134 u135 u136 u137 u138 u139 u140 u141 u142 u143 u144 u145 u146 u147 u148 u149 u150 u151 u152 u153 u154 u155 u156 u157 u158 u159 u160 u161 u162 u163 u164 u165 u166 u167 u168 u169 u170 u171 u172 u173 u174 u175 u176 u177 u178 u179 u180 u181 u182 u183 u184 u185 u186 u187 u188 u189 u190 u191 u192 u193 u194 u195 u196 u197 u198 u199 u200 u201 u202 u203 u204 u205 u206 u207 u208 u209 u210 u211 u212 u213 u214 u215 u216 u217 u218 u219 : Value) (K : Exit → Act → World → Prop)
    (hK : ∀ (u5 u6 u7 u8 u9 u10 u11 u12 u13 u14 u15 u16 u17 u19 u21 u22 u23 u25 u26 u27 u28 u29 u30 u31 u32 u33 u34 u35 u36 u37 u38 u39 u40 u41 u42 u43 u44 u45 u46 u47 u48 u49 u50 u51 u52 u53 u54 u55 u56 u57 u58 u59 u60 u61 u62 u63 u64 u65 u66 u67 u68 u69 u70 u71 u72 u73 u74 u75 u76 u77 u78 u79 u80 u81 u82 u83 u84 u85 u86 u87 u88 u89 u90 u91 u92 u93 u94 u95 u96 u97 u98 u99 u100 u101 u102 u103 u104 u105 u106 u107 u108 u109 u110 u111 u112 u113 u114 u115 u116 u117 u118 u119 u120 u121 u122 u123 u124 u125 u126 u127 u128 u129 u130 u131 u132 u133 u134 u135 u136 u137 u138 u139 u140 u141 u142 u143 u144 u145 u146 u147 u148 u149 u150 u151 u152 u153 u154 u155 u156 u157 u158 u159 u160 u161 u162 u163 u164 u165 u166 u167 u168 u169 u170 u171 u172 u173 u174 u175 u176 u177 u178 u179 u180 u181 u182 u183 u184 u185 u186 u187 u188 u189 u190 u191 u192 u193 u194 u195 u196 u197 u198 u199 u200 u201 u202 u203 u204 u205 u206 u207 u208 u209 u210 u211 u212 u213 u214 u215 u216 u217 u218 u219 : Value) (m2 : Nat) (d2 : Array Opr) (o2 : Array Obj) (S1 : List Opr), d2.size = d0.size → d2.toList = X ++ (S1 ++ Z) → Stb key (L1 ++ V) S1 → K .normal { tmps := #[.slice (some ⟨blk, off, none⟩) N cap, .int .i64 (a : Int), .int .i64 (m : Int), .int .i64 (b : Int), .func (.func g) #[] cb, u5, u6, u7, u8, u9, u10, u11, u12, u13, u14, u15, u16, u17, .int .i64 (mid : Int), u19, .int .i64 (i : Int), u21, u22, u23, .int .i64 (en : Int), u25, u26, u27, u28, u29, u30, u31, u32, u33, u34, u35, u36, u37, u38, u39, u40, u41, u42, u43, u44, u45, u46, u47, u48, u49, u50, u51, u52, u53, u54, u55, u56, u57, u58, u59, u60, u61, u62, u63, u64, u65, u66, u67, u68, u69, u70, u71, u72, u73, u74, u75, u76, u77, u78, u79, u80, u81, u82, u83, u84, u85, u86, u87, u88, u89, u90, u91, u92, u93, u94, u95, u96, u97, u98, u99, u100, u101, u102, u103, u104, u105, u106, u107, u108, u109, u110, u111, u112, u113, u114, u115, u116, u117, u118, u119, u120, u121, u122, u123, u124, u125, u126, u127, u128, u129, u130, u131, u132, u133, u134, u135, u136, u137, u138, u139, u140, u141, u142, u143, u144, u145, u146, u147, u148, u149, u150, u151, u152, u153, u154, u155, u156, u157, u158, u159, u160, u161, u162, u163, u164, u165, u166, u167, u168, u169, u170, u171, u172, u173, u174, u175, u176, u177, u178, u179, u180, u181, u182, u183, u184, u185, u186, u187, u188, u189, u190, u191, u192, u193, u194, u195, u196, u197, u198, u199, u200, u201, u202, u203, u204, u205, u206, u207, u208, u209, u210, u211, u212, u213, u214, u215, u216, u217, u218, u219], defers := [] } (SW w blk off m2 d2 o2)) :
    Code.wp Try.prog (headAt (bodyOf Try.f79) 10) K { tmps := #[.slice (some ⟨blk, off, none⟩) N cap, .int .i64 (a : Int), .int .i64 (m : Int), .int .i64 (b : Int), .func (.func g) #[] cb, u5, u6, u7, u8, u9, u10, u11, u12, u13, u14, u15, u16, u17, .int .i64 (mid : Int), u19, .int .i64 (i : Int), u21, u22, u23, .int .i64 (en : Int), u25, u26, u27, u28, u29, u30, u31, u32, u33, u34, u35, u36, u37, u38, u39, u40, u41, u42, u43, u44, u45, u46, u47, u48, u49, u50, u51, u52, u53, u54, u55, u56, u57, u58, u59, u60, u61, u62, u63, u64, u65, u66, u67, u68, u69, u70, u71, u72, u73, u74, u75, u76, u77, u78, u79, u80, u81, u82, u83, u84, u85, u86, u87, u88, u89, u90, u91, u92, u93, u94, u95, u96, u97, u98, u99, u100, u101, u102, u103, u104, u105, u106, u107, u108, u109, u110, u111, u112, u113, u114, u115, u116, u117, u118, u119, u120, u121, u122, u123, u124, u125, u126, u127, u128, u129, u130, u131, u132, u133, u134, u135, u136, u137, u138, u139, u140, u141, u142, u143, u144, u145, u146, u147, u148, u149, u150, u151, u152, u153, u154, u155, u156, u157, u158, u159, u160, u161, u162, u163, u164, u165, u166, u167, u168, u169, u170, u171, u172, u173, u174, u175, u176, u177, u178, u179, u180, u181, u182, u183, u184, u185, u186, u187, u188, u189, u190, u191, u192, u193, u194, u195, u196, u197, u198, u199, u200, u201, u202, u203, u204, u205, u206, u207, u208, u209, u210, u211, u212, u213, u214, u215, u216, u217, u218, u219], defers := [] } (SW w blk off m1 d o1) := by
  have HIH := Lib.hid IH
  have HK := Lib.hid hK
  have HD := Lib.hid h
  have HD0 := Lib.hid hd
  have HN := Lib.hid hN
  have HS := Lib.hid (show Srt key L1 ∧ Srt key V from ⟨s1, s2⟩)
  have HA := Lib.hid (show a = X.length ∧ i = a + L1.length ∧ mid = i + V.length ∧ L1.length + V.length < k0 by omega)
  clear H IH hK h hd hN ha hi hmd hk0 s1 s2
  dsimp only [headAt, bodyOf, Try.f79]
  by_cases h1 : a < i
  · by_cases h2 : i < mid
    · have hC := HIH.out m1 d o1 HD0.out X L1 V Z HD.out (by have := HA.out; omega) (by have := HA.out; omega) HA.out.2.2.2 HS.out.1 HS.out.2 a i mid N HA.out.1 HA.out.2.1 HA.out.2.2.1 HN.out
      have HC2 := Lib.hid hC
      clear hC
      go_wp2_with (go_at_call 79; refine HC2.out.mono ?_; rintro e w' ⟨rfl, m2, d2, o2, S1, hw2, hs2, hl2, hst⟩)
      subst hw2
      exact HK.out _ _ _ _ _ _ _ _ _ _ _ _ _ _ _ _ _ _ _ _ _ _ _ _ _ _ _ _ _ _ _ _ _ _ _ _ _ _ _ _ _ _ _ _ _ _ _ _ _ _ _ _ _ _ _ _ _ _ _ _ _ _ _ _ _ _ _ _ _ _ _ _ _ _ _ _ _ _ _ _ _ _ _ _ _ _ _ _ _ _ _ _ _ _ _ _ _ _ _ _ _ _ _ _ _ _ _ _ _ _ _ _ _ _ _ _ _ _ _ _ _ _ _ _ _ _ _ _ _ _ _ _ _ _ _ _ _ _ _ _ _ _ _ _ _ _ _ _ _ _ _ _ _ _ _ _ _ _ _ _ _ _ _ _ _ _ _ _ _ _ _ _ _ _ _ _ _ _ _ _ _ _ _ _ _ _ _ _ _ _ _ _ _ _ _ _ _ _ _ _ _ _ _ _ _ _ _ _ _ _ _ _ m2 d2 o2 S1 hs2 hl2 hst
    · have hv : V = [] := List.eq_nil_of_length_eq_zero (by have := HA.out; omega)
      go_wp2_with fail
      exact HK.out _ _ _ _ _ _ _ _ _ _ _ _ _ _ _ _ _ _ _ _ _ _ _ _ _ _ _ _ _ _ _ _ _ _ _ _ _ _ _ _ _ _ _ _ _ _ _ _ _ _ _ _ _ _ _ _ _ _ _ _ _ _ _ _ _ _ _ _ _ _ _ _ _ _ _ _ _ _ _ _ _ _ _ _ _ _ _ _ _ _ _ _ _ _ _ _ _ _ _ _ _ _ _ _ _ _ _ _ _ _ _ _ _ _ _ _ _ _ _ _ _ _ _ _ _ _ _ _ _ _ _ _ _ _ _ _ _ _ _ _ _ _ _ _ _ _ _ _ _ _ _ _ _ _ _ _ _ _ _ _ _ _ _ _ _ _ _ _ _ _ _ _ _ _ _ _ _ _ _ _ _ _ _ _ _ _ _ _ _ _ _ _ _ _ _ _ _ _ _ _ _ _ _ _ _ _ _ _ _ _ _ _ m1 d o1 (L1 ++ V) HD0.out (by rw [HD.out]; simp) ⟨by rw [hv, List.append_nil]; exact HS.out.1, Fil.refl _⟩
  · have hu : L1 = [] := List.eq_nil_of_length_eq_zero (by have := HA.out; omega)
    go_wp2_with fail
    exact HK.out _ _ _ _ _ _ _ _ _ _ _ _ _ _ _ _ _ _ _ _ _ _ _ _ _ _ _ _ _ _ _ _ _ _ _ _ _ _ _ _ _ _ _ _ _ _ _ _ _ _ _ _ _ _ _ _ _ _ _ _ _ _ _ _ _ _ _ _ _ _ _ _ _ _ _ _ _ _ _ _ _ _ _ _ _ _ _ _ _ _ _ _ _ _ _ _ _ _ _ _ _ _ _ _ _ _ _ _ _ _ _ _ _ _ _ _ _ _ _ _ _ _ _ _ _ _ _ _ _ _ _ _ _ _ _ _ _ _ _ _ _ _ _ _ _ _ _ _ _ _ _ _ _ _ _ _ _ _ _ _ _ _ _ _ _ _ _ _ _ _ _ _ _ _ _ _ _ _ _ _ _ _ _ _ _ _ _ _ _ _ _ _ _ _ _ _ _ _ _ _ _ _ _ _ _ _ _ _ _ _ _ _ m1 d o1 (L1 ++ V) HD0.out (by rw [HD.out]; simp) ⟨by rw [hu, List.nil_append]; exact HS.out.2, Fil.refl _⟩

set_option maxHeartbeats 8000000 in
set_option maxRecDepth 100000 in
theorem symS11 {w : World} {blk off cap : Nat} {d0 : Array Opr} (H : SwR w blk off d0) {g : Nat} {cb : Array Value} {key : Opr → Int} {k0 : Nat} (IH : SymIH w blk off cap d0 g cb key k0) (m1 : Nat) (d : Array Opr) (o1 : Array Obj) (hd : d.size = d0.size) (X U R2 Y : List Opr) (h : d.toList = X ++ (U ++ (R2 ++ Y))) (s1 : Srt key U) (s2 : Srt key R2) (a m b N mid i en : Nat) (hmd : mid = X.length) (he : en = X.length + U.length) (hb : b = X.length + U.length + R2.length) (hk0 : U.length + R2.length < k0) (hN : N = d.size)
    (u5 u6 u7 u8 u9 u10 u11 u12 u13 u14 u15 u16 u17 u19 u21 u22 u23 u25 u26 u27 u28 u29 u30 u31 u32 u33 u34 u35 u36 u37 u38 u39 u40 u41 u42 u43 u44 u45 u46 u47 u48 u49 u50 u51 u52 u53 u54 u55 u56 u57 u58 u59 u60 u61 u62 u63 u64 u65 u66 u67 u68 u69 u70 u71 u72 u73 u74 u75 u76 u77 u78 u79 u80 u81 u82 u83 u84 u85 u86 u87 u88 u89 u90 u91 u92 u93 u94 u95 u96 u97 u98 u99 u100 u101 u102 u103 u104 u105 u106 u107 u108 u109 u110 u111 u112 u113 u114 u115 u116 u117 u118 u119 u120 u121 u122 u123 u124 u125 u126 u127 u128 u129 u130 u131 u132 u133 u134 u135 u136 u137 u138 u139 u140 u141 u142 u143 u144 u145 u146 u147 u148 u149 u150 u151 u152 u153 u154 u155 u156 u157 u158 u159 u160 u161 u162 u163 u164 u165 u166 u167 u168 u169 u170 u171 u172 u173 u174 u175 u176 u177 u178 u179 u180 u181 u182 u183 u184 u185 u186 u187 u188 u189 u190 u191 u192 u193 u194 u195 u196 u197 u198 u199 u200 u201 u202 u203 u204 u205 u206 u207 u208 u209 u210 u211 u212 u213 u214 u215 u216 u217 u218 u219 : Value) (K : Exit → Act → World → Prop)
    (hK : ∀ (u5 u6 u7 u8 u9 u10 u11 u12 u13 u14 u15 u16 u17 u19 u21 u22 u23 u25 u26 u27 u28 u29 u30 u31 u32 u33 u34 u35 u36 u37 u38 u39 u40 u41 u42 u43 u44 u45 u46 u47 u48 u49 u50 u51 u52 u53 u54 u55 u56 u57 u58 u59 u60 u61 u62 u63 u64 u65 u66 u67 u68 u69 u70 u71 u72 u73 u74 u75 u76 u77 u78 u79 u80 u81 u82 u83 u84 u85 u86 u87 u88 u89 u90 u91 u92 u93 u94 u95 u96 u97 u98 u99 u100 u101 u102 u103 u104 u105 u106 u107 u108 u109 u110 u111 u112 u113 u114 u115 u116 u117 u118 u119 u120 u121 u122 u123 u124 u125 u126 u127 u128 u129 u130 u131 u132 u133 u134 u135 u136 u137 u138 u139 u140 u141 u142 u143 u144 u145 u146 u147 u148 u149 u150 u151 u152 u153 u154 u155 u156 u157 u158 u159 u160 u161 u162 u163 u164 u165 u166 u167 u168 u169 u170 u171 u172 u173 u174 u175 u176 u177 u178 u179 u180 u181 u182 u183 u184 u185 u186 u187 u188 u189 u190 u191 u192 u193 u194 u195 u196 u197 u198 u199 u200 u201 u202 u203 u204 u205 u206 u207 u208 u209 u210 u211 u212 u213 u214 u215 u216 u217 u218 u219 : Value) (m2 : Nat) (d2 : Array Opr) (o2 : Array Obj) (S2 : List Opr), d2.size = d0.size → d2.toList = X ++ (S2 ++ Y) → Stb key (U ++ R2) S2 → K .normal { tmps := #[.slice (some ⟨blk, off, none⟩) N cap, .int .i64 (a : Int), .int .i64 (m : Int), .int .i64 (b : Int), .func (.func g) #[] cb, u5, u6, u7, u8, u9, u10, u11, u12, u13, u14, u15, u16, u17, .int .i64 (mid : Int), u19, .int .i64 (i : Int), u21, u22, u23, .int .i64 (en : Int), u25, u26, u27, u28, u29, u30, u31, u32, u33, u34, u35, u36, u37, u38, u39, u40, u41, u42, u43, u44, u45, u46, u47, u48, u49, u50, u51, u52, u53, u54, u55, u56, u57, u58, u59, u60, u61, u62, u63, u64, u65, u66, u67, u68, u69, u70, u71, u72, u73, u74, u75, u76, u77, u78, u79, u80, u81, u82, u83, u84, u85, u86, u87, u88, u89, u90, u91, u92, u93, u94, u95, u96, u97, u98, u99, u100, u101, u102, u103, u104, u105, u106, u107, u108, u109, u110, u111, u112, u113, u114, u115, u116, u117, u118, u119, u120, u121, u122, u123, u124, u125, u126, u127, u128, u129, u130, u131, u132, u133, u134, u135, u136, u137, u138, u139, u140, u141, u142, u143, u144, u145, u146, u147, u148, u149, u150, u151, u152, u153, u154, u155, u156, u157, u158, u159, u160, u161, u162, u163, u164, u165, u166, u167, u168, u169, u170, u171, u172, u173, u174, u175, u176, u177, u178, u179, u180, u181, u182, u183, u184, u185, u186, u187, u188, u189, u190, u191, u192, u193, u194, u195, u196, u197, u198, u199, u200, u201, u202, u203, u204, u205, u206, u207, u208, u209, u210, u211, u212, u213, u214, u215, u216, u217, u218, u219], defers := [] } (SW w blk off m2 d2 o2)) :
    Code.wp Try.prog (seqAt (bodyOf Try.f79) 11) K { tmps := #[.slice (some ⟨blk, off, none⟩) N cap, .int .i64 (a : Int), .int .i64 (m : Int), .int .i64 (b : Int), .func (.func g) #[] cb, u5, u6, u7, u8, u9, u10, u11, u12, u13, u14, u15, u16, u17, .int .i64 (mid : Int), u19, .int .i64 (i : Int), u21, u22, u23, .int .i64 (en : Int), u25, u26, u27, u28, u29, u30, u31, u32, u33, u34, u35, u36, u37, u38, u39, u40, u41, u42, u43, u44, u45, u46, u47, u48, u49, u50, u51, u52, u53, u54, u55, u56, u57, u58, u59, u60, u61, u62, u63, u64, u65, u66, u67, u68, u69, u70, u71, u72, u73, u74, u75, u76, u77, u78, u79, u80, u81, u82, u83, u84, u85, u86, u87, u88, u89, u90, u91, u92, u93, u94, u95, u96, u97, u98, u99, u100, u101, u102, u103, u104, u105, u106, u107, u108, u109, u110, u111, u112, u113, u114, u115, u116, u117, u118, u119, u120, u121, u122, u123, u124, u125, u126, u127, u128, u129, u130, u131, u132, u133, u134, u135, u136, u137, u138, u139, u140, u141, u142, u143, u144, u145, u146, u147, u148, u149, u150, u151, u152, u153, u154, u155, u156, u157, u158, u159, u160, u161, u162, u163, u164, u165, u166, u167, u168, u169, u170, u171, u172, u173, u174, u175, u176, u177, u178, u179, u180, u181, u182, u183, u184, u185, u186, u187, u188, u189, u190, u191, u192, u193, u194, u195, u196, u197, u198, u199, u200, u201, u202, u203, u204, u205, u206, u207, u208, u209, u210, u211, u212, u213, u214, u215, u216, u217, u218, u219], defers := [] } (SW w blk off m1 d o1) := by
  have HIH := Lib.hid IH
  have HK := Lib.hid hK
  have HD := Lib.hid h
  have HD0 := Lib.hid hd
  have HN := Lib.hid hN
  have HS := Lib.hid (show Srt key U ∧ Srt key R2 from ⟨s1, s2⟩)
  have HA := Lib.hid (show mid = X.length ∧ en = mid + U.length ∧ b = en + R2.length ∧ U.length + R2.length < k0 by omega)
  clear H IH hK h hd hN he hb hmd hk0 s1 s2
  dsimp only [seqAt, bodyOf, Try.f79]
  by_cases h1 : mid < en
  · by_cases h2 : en < b
    · have hC := HIH.out m1 d o1 HD0.out X U R2 Y HD.out (by have := HA.out; omega) (by have := HA.out; omega) HA.out.2.2.2 HS.out.1 HS.out.2 mid en b N HA.out.1 HA.out.2.1 HA.out.2.2.1 HN.out
      have HC2 := Lib.hid hC
      clear hC
      go_wp2_with (go_at_call 79; refine HC2.out.mono ?_; rintro e w' ⟨rfl, m2, d2, o2, S1, hw2, hs2, hl2, hst⟩)
      subst hw2
      exact HK.out _ _ _ _ _ _ _ _ _ _ _ _ _ _ _ _ _ _ _ _ _ _ _ _ _ _ _ _ _ _ _ _ _ _ _ _ _ _ _ _ _ _ _ _ _ _ _ _ _ _ _ _ _ _ _ _ _ _ _ _ _ _ _ _ _ _ _ _ _ _ _ _ _ _ _ _ _ _ _ _ _ _ _ _ _ _ _ _ _ _ _ _ _ _ _ _ _ _ _ _ _ _ _ _ _ _ _ _ _ _ _ _ _ _ _ _ _ _ _ _ _ _ _ _ _ _ _ _ _ _ _ _ _ _ _ _ _ _ _ _ _ _ _ _ _ _ _ _ _ _ _ _ _ _ _ _ _ _ _ _ _ _ _ _ _ _ _ _ _ _ _ _ _ _ _ _ _ _ _ _ _ _ _ _ _ _ _ _ _ _ _ _ _ _ _ _ _ _ _ _ _ _ _ _ _ _ _ _ _ _ _ _ m2 d2 o2 S1 hs2 hl2 hst
    · have hv : R2 = [] := List.eq_nil_of_length_eq_zero (by have := HA.out; omega)
      go_wp2_with fail
      exact HK.out _ _ _ _ _ _ _ _ _ _ _ _ _ _ _ _ _ _ _ _ _ _ _ _ _ _ _ _ _ _ _ _ _ _ _ _ _ _ _ _ _ _ _ _ _ _ _ _ _ _ _ _ _ _ _ _ _ _ _ _ _ _ _ _ _ _ _ _ _ _ _ _ _ _ _ _ _ _ _ _ _ _ _ _ _ _ _ _ _ _ _ _ _ _ _ _ _ _ _ _ _ _ _ _ _ _ _ _ _ _ _ _ _ _ _ _ _ _ _ _ _ _ _ _ _ _ _ _ _ _ _ _ _ _ _ _ _ _ _ _ _ _ _ _ _ _ _ _ _ _ _ _ _ _ _ _ _ _ _ _ _ _ _ _ _ _ _ _ _ _ _ _ _ _ _ _ _ _ _ _ _ _ _ _ _ _ _ _ _ _ _ _ _ _ _ _ _ _ _ _ _ _ _ _ _ _ _ _ _ _ _ _ m1 d o1 (U ++ R2) HD0.out (by rw [HD.out]; simp) ⟨by rw [hv, List.append_nil]; exact HS.out.1, Fil.refl _⟩
  · have hu : U = [] := List.eq_nil_of_length_eq_zero (by have := HA.out; omega)
    go_wp2_with fail
    exact HK.out _ _ _ _ _ _ _ _ _ _ _ _ _ _ _ _ _ _ _ _ _ _ _ _ _ _ _ _ _ _ _ _ _ _ _ _ _ _ _ _ _ _ _ _ _ _ _ _ _ _ _ _ _ _ _ _ _ _ _ _ _ _ _ _ _ _ _ _ _ _ _ _ _ _ _ _ _ _ _ _ _ _ _ _ _ _ _ _ _ _ _ _ _ _ _ _ _ _ _ _ _ _ _ _ _ _ _ _ _ _ _ _ _ _ _ _ _ _ _ _ _ _ _ _ _ _ _ _ _ _ _ _ _ _ _ _ _ _ _ _ _ _ _ _ _ _ _ _ _ _ _ _ _ _ _ _ _ _ _ _ _ _ _ _ _ _ _ _ _ _ _ _ _ _ _ _ _ _ _ _ _ _ _ _ _ _ _ _ _ _ _ _ _ _ _ _ _ _ _ _ _ _ _ _ _ _ _ _ _ _ _ _ m1 d o1 (U ++ R2) HD0.out (by rw [HD.out]; simp) ⟨by rw [hu, List.nil_append]; exact HS.out.2, Fil.refl _⟩

end Go.Proofs.Ytolcgopfbbmjgaa

/-
  The library's stable sort at operations: symMerge's end as a whole.
-/
namespace Go.Proofs.Ytolcgopfbbmjgaa
set_option linter.unusedVariables false
set_option linter.unusedSimpArgs false
open Go.RowKit Go.Lib Go.Sort

set_option maxHeartbeats 8000000 in
set_option maxRecDepth 100000 in
theorem symS8 {blk off cap N : Nat} (g : Nat) (cb : Array Value) (a m b mid i en n : Nat) (hen : en + i = n) (hb : en ≤ 2000) (W : World)
    (u5 u6 u7 u8 u9 u10 u11 u12 u13 u14 u15 u16 u17 u21 u22 u23 u24 u25 u26 u27 u28 u29 u30 u31 u32 u33 u34 u35 u36 u37 u38 u39 u40 u41 u42 u43 u44 u45 u46 u47 u48 u49 u50 u51 u52 u53 u54 u55 u56 u57 u58 u59 u60 u61 u62 u63 u64 u65 u66 u67 u68 u69 u70 u71 u72 u73 u74 u75 u76 u77 u78 u79 u80 u81 u82 u83 u84 u85 u86 u87 u88 u89 u90 u91 u92 u93 u94 u95 u96 u97 u98 u99 u100 u101 u102 u103 u104 u105 u106 u107 u108 u109 u110 u111 u112 u113 u114 u115 u116 u117 u118 u119 u120 u121 u122 u123 u124 u125 u126 u127 u128 u129 u130 u131 u132 u133 u134 u135 u136 u137 u138 u139 u140 u141 u142 u143 u144 u145 u146 u147 u148 u149 u150 u151 u152 u153 u154 u155 u156 u157 u158 u159 u160 u161 u162 u163 u164 u165 u166 u167 u168 u169 u170 u171 u172 u173 u174 u175 u176 u177 u178 u179 u180 u181 u182 u183 u184 u185 u186 u187 u188 u189 u190 u191 u192 u193 u194 u195 u196 u197 u198 u199 u200 u201 u202 u203 u204 u205 u206 u207 u208 u209 u210 u211 u212 u213 u214 u215 u216 u217 u218 u219 : Value) (K : Exit → Act → World → Prop)
    (hK : ∀ (u5 u6 u7 u8 u9 u10 u11 u12 u13 u14 u15 u16 u17 u19 u21 u22 u23 u25 u26 u27 u28 u29 u30 u31 u32 u33 u34 u35 u36 u37 u38 u39 u40 u41 u42 u43 u44 u45 u46 u47 u48 u49 u50 u51 u52 u53 u54 u55 u56 u57 u58 u59 u60 u61 u62 u63 u64 u65 u66 u67 u68 u69 u70 u71 u72 u73 u74 u75 u76 u77 u78 u79 u80 u81 u82 u83 u84 u85 u86 u87 u88 u89 u90 u91 u92 u93 u94 u95 u96 u97 u98 u99 u100 u101 u102 u103 u104 u105 u106 u107 u108 u109 u110 u111 u112 u113 u114 u115 u116 u117 u118 u119 u120 u121 u122 u123 u124 u125 u126 u127 u128 u129 u130 u131 u132 u133 u134 u135 u136 u137 u138 u139 u140 u141 u142 u143 u144 u145 u146 u147 u148 u149 u150 u151 u152 u153 u154 u155 u156 u157 u158 u159 u160 u161 u162 u163 u164 u165 u166 u167 u168 u169 u170 u171 u172 u173 u174 u175 u176 u177 u178 u179 u180 u181 u182 u183 u184 u185 u186 u187 u188 u189 u190 u191 u192 u193 u194 u195 u196 u197 u198 u199 u200 u201 u202 u203 u204 u205 u206 u207 u208 u209 u210 u211 u212 u213 u214 u215 u216 u217 u218 u219 : Value), K .normal { tmps := #[.slice (some ⟨blk, off, none⟩) N cap, .int .i64 (a : Int), .int .i64 (m : Int), .int .i64 (b : Int), .func (.func g) #[] cb, u5, u6, u7, u8, u9, u10, u11, u12, u13, u14, u15, u16, u17, .int .i64 (mid : Int), u19, .int .i64 (i : Int), u21, u22, u23, .int .i64 (en : Int), u25, u26, u27, u28, u29, u30, u31, u32, u33, u34, u35, u36, u37, u38, u39, u40, u41, u42, u43, u44, u45, u46, u47, u48, u49, u50, u51, u52, u53, u54, u55, u56, u57, u58, u59, u60, u61, u62, u63, u64, u65, u66, u67, u68, u69, u70, u71, u72, u73, u74, u75, u76, u77, u78, u79, u80, u81, u82, u83, u84, u85, u86, u87, u88, u89, u90, u91, u92, u93, u94, u95, u96, u97, u98, u99, u100, u101, u102, u103, u104, u105, u106, u107, u108, u109, u110, u111, u112, u113, u114, u115, u116, u117, u118, u119, u120, u121, u122, u123, u124, u125, u126, u127, u128, u129, u130, u131, u132, u133, u134, u135, u136, u137, u138, u139, u140, u141, u142, u143, u144, u145, u146, u147, u148, u149, u150, u151, u152, u153, u154, u155, u156, u157, u158, u159, u160, u161, u162, u163, u164, u165, u166, u167, u168, u169, u170, u171, u172, u173, u174, u175, u176, u177, u178, u179, u180, u181, u182, u183, u184, u185, u186, u187, u188, u189, u190, u191, u192, u193, u194, u195, u196, u197, u198, u199, u200, u201, u202, u203, u204, u205, u206, u207, u208, u209, u210, u211, u212, u213, u214, u215, u216, u217, u218, u219], defers := [] } W) :
    Code.wp Try.prog (headAt (bodyOf Try.f79) 8) K { tmps := #[.slice (some ⟨blk, off, none⟩) N cap, .int .i64 (a : Int), .int .i64 (m : Int), .int .i64 (b : Int), .func (.func g) #[] cb, u5, u6, u7, u8, u9, u10, u11, u12, u13, u14, u15, u16, u17, .int .i64 (mid : Int), .int .i64 (n : Int), .int .i64 (i : Int), u21, u22, u23, u24, u25, u26, u27, u28, u29, u30, u31, u32, u33, u34, u35, u36, u37, u38, u39, u40, u41, u42, u43, u44, u45, u46, u47, u48, u49, u50, u51, u52, u53, u54, u55, u56, u57, u58, u59, u60, u61, u62, u63, u64, u65, u66, u67, u68, u69, u70, u71, u72, u73, u74, u75, u76, u77, u78, u79, u80, u81, u82, u83, u84, u85, u86, u87, u88, u89, u90, u91, u92, u93, u94, u95, u96, u97, u98, u99, u100, u101, u102, u103, u104, u105, u106, u107, u108, u109, u110, u111, u112, u113, u114, u115, u116, u117, u118, u119, u120, u121, u122, u123, u124, u125, u126, u127, u128, u129, u130, u131, u132, u133, u134, u135, u136, u137, u138, u139, u140, u141, u142, u143, u144, u145, u146, u147, u148, u149, u150, u151, u152, u153, u154, u155, u156, u157, u158, u159, u160, u161, u162, u163, u164, u165, u166, u167, u168, u169, u170, u171, u172, u173, u174, u175, u176, u177, u178, u179, u180, u181, u182, u183, u184, u185, u186, u187, u188, u189, u190, u191, u192, u193, u194, u195, u196, u197, u198, u199, u200, u201, u202, u203, u204, u205, u206, u207, u208, u209, u210, u211, u212, u213, u214, u215, u216, u217, u218, u219], defers := [] } W := by
  have HK := Lib.hid hK
  have hwe : (n : Int) - (i : Int) = (en : Int) := by omega
  clear hK
  dsimp only [headAt, bodyOf, Try.f79]
  go_wp2_with fail
  exact HK.out _ _ _ _ _ _ _ _ _ _ _ _ _ _ _ _ _ _ _ _ _ _ _ _ _ _ _ _ _ _ _ _ _ _ _ _ _ _ _ _ _ _ _ _ _ _ _ _ _ _ _ _ _ _ _ _ _ _ _ _ _ _ _ _ _ _ _ _ _ _ _ _ _ _ _ _ _ _ _ _ _ _ _ _ _ _ _ _ _ _ _ _ _ _ _ _ _ _ _ _ _ _ _ _ _ _ _ _ _ _ _ _ _ _ _ _ _ _ _ _ _ _ _ _ _ _ _ _ _ _ _ _ _ _ _ _ _ _ _ _ _ _ _ _ _ _ _ _ _ _ _ _ _ _ _ _ _ _ _ _ _ _ _ _ _ _ _ _ _ _ _ _ _ _ _ _ _ _ _ _ _ _ _ _ _ _ _ _ _ _ _ _ _ _ _ _ _ _ _ _ _ _ _ _ _ _ _ _ _ _ _ _

set_option maxHeartbeats 8000000 in
set_option maxRecDepth 100000 in
theorem symTail {w : World} {blk off cap : Nat} {d0 : Array Opr} (H : SwR w blk off d0) {g : Nat} {cb : Array Value} {key : Opr → Int} {k0 : Nat} (IH : SymIH w blk off cap d0 g cb key k0) (m1 : Nat) (d : Array Opr) (o1 : Array Obj) (hd : d.size = d0.size) (X L1 U V R2 Y : List Opr) (h : d.toList = X ++ ((L1 ++ U) ++ ((V ++ R2) ++ Y))) (sL : Srt key (L1 ++ U)) (sR : Srt key (V ++ R2)) (hc1 : ∀ u ∈ U, ∀ v ∈ V, key v < key u) (hc2 : ∀ x ∈ L1, ∀ y ∈ R2, key x ≤ key y)
    (a m b N mid i en n : Nat) (ha : a = X.length) (hi : i = a + L1.length) (hm : m = i + U.length) (he : en = m + V.length) (hb : b = en + R2.length) (hmd : mid = i + V.length) (hn : en + i = n) (hk1 : L1.length + V.length < k0) (hk2 : U.length + R2.length < k0) (hb2 : en ≤ 2000) (hN : N = d.size)
    (u5 u6 u7 u8 u9 u10 u11 u12 u13 u14 u15 u16 u17 u21 u22 u23 u24 u25 u26 u27 u28 u29 u30 u31 u32 u33 u34 u35 u36 u37 u38 u39 u40 u41 u42 u43 u44 u45 u46 u47 u48 u49 u50 u51 u52 u53 u54 u55 u56 u57 u58 u59 u60 u61 u62 u63 u64 u65 u66 u67 u68 u69 u70 u71 u72 u73 u74 u75 u76 u77 u78 u79 u80 u81 u82 u83 u84 u85 u86 u87 u88 u89 u90 u91 u92 u93 u94 u95 u96 u97 u98 u99 u100 u101 u102 u103 u104 u105 u106 u107 u108 u109 u110 u111 u112 u113 u114 u115 u116 u117 u118 u119 u120 u121 u122 u123 u124 u125 u126 u127 u128 u129 u130 u131 u132 u133 u134 u135 u136 u137 u138 u139 u140 u141 u142 u143 u144 u145 u146 u147 u148 u149 u150 u151 u152 u153 u154 u155 u156 u157 u158 u159 u160 u161 u162 u163 u164 u165 u166 u167 u168 u169 u170 u171 u172 u173 u174 u175 u176 u177 u178 u179 u180 u181 u182 u183 u184 u185 u186 u187 u188 u189 u190 u191 u192 u193 u194 u195 u196 u197 u198 u199 u200 u201 u202 u203 u204 u205 u206 u207 u208 u209 u210 u211 u212 u213 u214 u215 u216 u217 u218 u219 : Value) :
    Code.wp Try.prog (seqAt (bodyOf Try.f79) 8) (bodyPost Try.prog Try.f79 (SymDid w blk off d0 key X (L1 ++ U) (V ++ R2) Y)) { tmps := #[.slice (some ⟨blk, off, none⟩) N cap, .int .i64 (a : Int), .int .i64 (m : Int), .int .i64 (b : Int), .func (.func g) #[] cb, u5, u6, u7, u8, u9, u10, u11, u12, u13, u14, u15, u16, u17, .int .i64 (mid : Int), .int .i64 (n : Int), .int .i64 (i : Int), u21, u22, u23, u24, u25, u26, u27, u28, u29, u30, u31, u32, u33, u34, u35, u36, u37, u38, u39, u40, u41, u42, u43, u44, u45, u46, u47, u48, u49, u50, u51, u52, u53, u54, u55, u56, u57, u58, u59, u60, u61, u62, u63, u64, u65, u66, u67, u68, u69, u70, u71, u72, u73, u74, u75, u76, u77, u78, u79, u80, u81, u82, u83, u84, u85, u86, u87, u88, u89, u90, u91, u92, u93, u94, u95, u96, u97, u98, u99, u100, u101, u102, u103, u104, u105, u106, u107, u108, u109, u110, u111, u112, u113, u114, u115, u116, u117, u118, u119, u120, u121, u122, u123, u124, u125, u126, u127, u128, u129, u130, u131, u132, u133, u134, u135, u136, u137, u138, u139, u140, u141, u142, u143, u144, u145, u146, u147, u148, u149, u150, u151, u152, u153, u154, u155, u156, u157, u158, u159, u160, u161, u162, u163, u164, u165, u166, u167, u168, u169, u170, u171, u172, u173, u174, u175, u176, u177, u178, u179, u180, u181, u182, u183, u184, u185, u186, u187, u188, u189, u190, u191, u192, u193, u194, u195, u196, u197, u198, u199, u200, u201, u202, u203, u204, u205, u206, u207, u208, u209, u210, u211, u212, u213, u214, u215, u216, u217, u218, u219], defers := [] } (SW w blk off m1 d o1) := by
  have l1 := List.pairwise_append.1 sL
  have l2 := List.pairwise_append.1 sR
  refine wp_seq (x := headAt (bodyOf Try.f79) 8) (y := seqAt (bodyOf Try.f79) 9) ?_
  refine symS8 g cb a m b mid i en n hn hb2 _ _ _ _ _ _ _ _ _ _ _ _ _ _ _ _ _ _ _ _ _ _ _ _ _ _ _ _ _ _ _ _ _ _ _ _ _ _ _ _ _ _ _ _ _ _ _ _ _ _ _ _ _ _ _ _ _ _ _ _ _ _ _ _ _ _ _ _ _ _ _ _ _ _ _ _ _ _ _ _ _ _ _ _ _ _ _ _ _ _ _ _ _ _ _ _ _ _ _ _ _ _ _ _ _ _ _ _ _ _ _ _ _ _ _ _ _ _ _ _ _ _ _ _ _ _ _ _ _ _ _ _ _ _ _ _ _ _ _ _ _ _ _ _ _ _ _ _ _ _ _ _ _ _ _ _ _ _ _ _ _ _ _ _ _ _ _ _ _ _ _ _ _ _ _ _ _ _ _ _ _ _ _ _ _ _ _ _ _ _ _ _ _ _ _ _ _ _ _ _ _ _ _ _ _ _ _ _ _ _ _ _ _ _ ?_
  intros
  refine wp_seq (x := headAt (bodyOf Try.f79) 9) (y := seqAt (bodyOf Try.f79) 10) (Q := bodyPost Try.prog Try.f79 (SymDid w blk off d0 key X (L1 ++ U) (V ++ R2) Y)) ?_
  refine symS9 H g cb m1 d o1 hd X L1 U V (R2 ++ Y) (by rw [h]; simp) a m b N mid i en (by omega) (by omega) (by omega) hN _ _ _ _ _ _ _ _ _ _ _ _ _ _ _ _ _ _ _ _ _ _ _ _ _ _ _ _ _ _ _ _ _ _ _ _ _ _ _ _ _ _ _ _ _ _ _ _ _ _ _ _ _ _ _ _ _ _ _ _ _ _ _ _ _ _ _ _ _ _ _ _ _ _ _ _ _ _ _ _ _ _ _ _ _ _ _ _ _ _ _ _ _ _ _ _ _ _ _ _ _ _ _ _ _ _ _ _ _ _ _ _ _ _ _ _ _ _ _ _ _ _ _ _ _ _ _ _ _ _ _ _ _ _ _ _ _ _ _ _ _ _ _ _ _ _ _ _ _ _ _ _ _ _ _ _ _ _ _ _ _ _ _ _ _ _ _ _ _ _ _ _ _ _ _ _ _ _ _ _ _ _ _ _ _ _ _ _ _ _ _ _ _ _ _ _ _ _ _ _ _ _ _ _ _ _ _ _ _ _ _ _ _ ?_
  intros
  rename_i m2 d2 o2 hs2 hl2
  refine wp_seq (x := headAt (bodyOf Try.f79) 10) (y := seqAt (bodyOf Try.f79) 11) (Q := bodyPost Try.prog Try.f79 (SymDid w blk off d0 key X (L1 ++ U) (V ++ R2) Y)) ?_
  refine symS10 H IH m2 d2 o2 hs2 X L1 V (U ++ (R2 ++ Y)) hl2 l1.1 l2.1 a m b N mid i en ha (by omega) (by omega) hk1 (by rw [hs2, ← hd]; exact hN) _ _ _ _ _ _ _ _ _ _ _ _ _ _ _ _ _ _ _ _ _ _ _ _ _ _ _ _ _ _ _ _ _ _ _ _ _ _ _ _ _ _ _ _ _ _ _ _ _ _ _ _ _ _ _ _ _ _ _ _ _ _ _ _ _ _ _ _ _ _ _ _ _ _ _ _ _ _ _ _ _ _ _ _ _ _ _ _ _ _ _ _ _ _ _ _ _ _ _ _ _ _ _ _ _ _ _ _ _ _ _ _ _ _ _ _ _ _ _ _ _ _ _ _ _ _ _ _ _ _ _ _ _ _ _ _ _ _ _ _ _ _ _ _ _ _ _ _ _ _ _ _ _ _ _ _ _ _ _ _ _ _ _ _ _ _ _ _ _ _ _ _ _ _ _ _ _ _ _ _ _ _ _ _ _ _ _ _ _ _ _ _ _ _ _ _ _ _ _ _ _ _ _ _ _ _ _ _ _ _ _ _ _ ?_
  intros
  rename_i m3 d3 o3 S1 hs3 hl3 hst1
  have hS1 : S1.length = L1.length + V.length := by rw [hst1.2.length, List.length_append]
  refine symS11 H IH m3 d3 o3 hs3 (X ++ S1) U R2 Y (by rw [hl3]; simp) l1.2.1 l2.2.1 a m b N mid i en (by rw [List.length_append]; omega) (by rw [List.length_append]; omega) (by rw [List.length_append]; omega) hk2 (by rw [hs3, ← hd]; exact hN) _ _ _ _ _ _ _ _ _ _ _ _ _ _ _ _ _ _ _ _ _ _ _ _ _ _ _ _ _ _ _ _ _ _ _ _ _ _ _ _ _ _ _ _ _ _ _ _ _ _ _ _ _ _ _ _ _ _ _ _ _ _ _ _ _ _ _ _ _ _ _ _ _ _ _ _ _ _ _ _ _ _ _ _ _ _ _ _ _ _ _ _ _ _ _ _ _ _ _ _ _ _ _ _ _ _ _ _ _ _ _ _ _ _ _ _ _ _ _ _ _ _ _ _ _ _ _ _ _ _ _ _ _ _ _ _ _ _ _ _ _ _ _ _ _ _ _ _ _ _ _ _ _ _ _ _ _ _ _ _ _ _ _ _ _ _ _ _ _ _ _ _ _ _ _ _ _ _ _ _ _ _ _ _ _ _ _ _ _ _ _ _ _ _ _ _ _ _ _ _ _ _ _ _ _ _ _ _ _ _ _ _ _ ?_
  intros
  rename_i m4 d4 o4 S2 hs4 hl4 hst2
  refine bodyPost_end (results_none rfl _ _ _) rfl ?_
  exact ⟨rfl, m4, d4, o4, S1 ++ S2, rfl, hs4, by rw [hl4]; simp, sym_join sL sR hc1 hc2 hst1 hst2⟩

end Go.Proofs.Ytolcgopfbbmjgaa

/-
  The library's stable sort at operations: symMerge where both halves are longer.
-/
namespace Go.Proofs.Ytolcgopfbbmjgaa
set_option linter.unusedVariables false
set_option linter.unusedSimpArgs false
open Go.RowKit Go.Lib Go.Sort

set_option maxHeartbeats 8000000 in
set_option maxRecDepth 100000 in
theorem symC_any {w : World} {blk off cap : Nat} {d0 : Array Opr} (H : SwR w blk off d0) {g : Nat} {cb : Array Value} {cf : Opr → Opr → Int} {key : Opr → Int} (C : CmpA w blk off d0.size g cb cf key) (m0 : Nat) (d : Array Opr) (os : Array Obj) (hd : d.size = d0.size) (X L R Y : List Opr) (IH : SymIH w blk off cap d0 g cb key (L.length + R.length)) (h : d.toList = X ++ (L ++ (R ++ Y))) (hl : 1 < L.length) (hr : 1 < R.length) (sL : Srt key L) (sR : Srt key R) (a m b N : Nat) (ha : a = X.length) (hm : m = a + L.length) (hb : b = m + R.length) (hN : N = d.size) :
    Calls Try.prog 79 #[.slice (some ⟨blk, off, none⟩) N cap, .int .i64 (a : Int), .int .i64 (m : Int), .int .i64 (b : Int), .func (.func g) #[] cb] (SW w blk off m0 d os) (SymDid w blk off d0 key X L R Y) := by
  have mixed : Try.prog.follows Departure.mixedOrders = true := by kernel_rfl
  have HH := Lib.hid H
  have HC := Lib.hid C
  have HIH := Lib.hid IH
  have eg := C.enters
  have HD := Lib.hid h
  have HSL := Lib.hid sL
  have HSR := Lib.hid sR
  have HD0 := Lib.hid hd
  have HN := Lib.hid hN
  have HA := Lib.hid ha
  have HM := Lib.hid hm
  have HB := Lib.hid hb
  have hbig := H.sz
  have hNb : N ≤ 2000 := by omega
  have hlen : X.length + (L.length + (R.length + Y.length)) = N := by
    have := congrArg List.length h
    simp at this
    omega
  have hbn : b ≤ N := by omega
  have ham2 : a + 1 < m := by omega
  have hmb2 : m + 1 < b := by omega
  obtain ⟨n1, hn1⟩ : ∃ n1 : Nat, n1 = m - a := ⟨_, rfl⟩
  have hw0 : IntKind.i64.wrap ((m : Int) - (a : Int)) = (n1 : Int) := by rw [IntWalk.i64_in _ (by omega)]; omega
  have hn12 : ((n1 : Int) == 1) = false := by rw [beq_eq_false_iff_ne]; omega
  obtain ⟨n2, hn2⟩ : ∃ n2 : Nat, n2 = b - m := ⟨_, rfl⟩
  have hw1 : IntKind.i64.wrap ((b : Int) - (m : Int)) = (n2 : Int) := by rw [IntWalk.i64_in _ (by omega)]; omega
  have hn22 : ((n2 : Int) == 1) = false := by rw [beq_eq_false_iff_ne]; omega
  obtain ⟨mid, hmd⟩ : ∃ mid : Nat, mid = (a + b) / 2 := ⟨_, rfl⟩
  have hmid : ((a : Int) + (b : Int)) / 2 = (mid : Int) := by omega
  obtain ⟨n, hn⟩ : ∃ n : Nat, n = mid + m := ⟨_, rfl⟩
  have hwn : (mid : Int) + (m : Int) = (n : Int) := by omega
  have hn4 : n ≤ 4000 := by omega
  have hmab : a < mid ∧ mid < b ∧ 2 * mid ≤ a + b ∧ a + b ≤ 2 * mid + 1 := by omega
  have HNE := Lib.hid hn
  clear H C IH h hl hr sL sR ha hm hb hN hd hlen hn1 hn2 hmd hn
  go_enter Try.func79, Try.ntmps79
  go_upto_if 140 with fail
  go_cut [20, 21] (fun s20 s21 wx => ∃ (lo hi : Nat), wx = SW w blk off m0 d os ∧ s20 = .int .i64 (lo : Int) ∧ s21 = .int .i64 (hi : Int) ∧ a ≤ lo ∧ n ≤ lo + b ∧ lo ≤ hi ∧ hi ≤ mid ∧ hi ≤ m ∧ Hid ((lo = a ∨ lo + b = n) ∧ (hi = mid ∨ hi = m)))
  case first =>
    have hn := HNE.out
    by_cases hgt : mid < m
    · obtain ⟨lo, hlo⟩ : ∃ lo : Nat, lo = n - b := ⟨_, rfl⟩
      have hws : (n : Int) - (b : Int) = (lo : Int) := by omega
      have hgz : (mid : Int) < (m : Int) := by omega
      have hlo2 : a ≤ lo ∧ n ≤ lo + b ∧ lo ≤ mid := by omega
      have HLO := Lib.hid (show lo + b = n by omega)
      clear hlo hn
      go_wp2
      go_meet
      case rel => exact ⟨lo, mid, rfl, rfl, rfl, by omega, by omega, by omega, Nat.le_refl _, by omega, ⟨.inr HLO.out, .inl rfl⟩⟩
    · have hgz : ¬ (mid : Int) < (m : Int) := by omega
      have hlo2 : n ≤ a + b := by omega
      clear hn
      go_wp2
      go_meet
      case rel => exact ⟨a, m, rfl, rfl, rfl, Nat.le_refl _, by omega, by omega, by omega, Nat.le_refl _, ⟨.inl rfl, .inr rfl⟩⟩
  case rest =>
    obtain ⟨lo, hi, hwc, rfl, rfl, hlo1, hlo2, hlh, hhi1, hhi2, HLH⟩ := hcut
    obtain ⟨pp, hpp⟩ : ∃ pp : Nat, pp + 1 = n := ⟨n - 1, by omega⟩
    have hwp : (n : Int) - 1 = (pp : Int) := by omega
    have hpp4 : pp ≤ 4000 := by omega
    have HPP := Lib.hid hpp
    clear hpp
    go_wp2
    go_loopw [20, 21] (fun v10 v11 wr => ∃ (i j m1 : Nat) (o1 : Array Obj), wr = SW w blk off m1 d o1 ∧ v10 = .int .i64 (i : Int) ∧ v11 = .int .i64 (j : Int) ∧ a ≤ i ∧ n ≤ i + b ∧ i ≤ j ∧ j ≤ mid ∧ j ≤ m ∧ Hid (((i = a ∨ i + b = n) ∨ ∀ x y, L[i - a - 1]? = some x → R[mid - i]? = some y → key x ≤ key y) ∧ ((j = mid ∨ j = m) ∨ ∀ x y, L[j - a]? = some x → R[mid - j - 1]? = some y → key y < key x))) (fun v10 v11 _ => (intOf v11).toNat - (intOf v10).toNat)
    case atStart => exact ⟨lo, hi, m0, os, by first | rfl | exact hwc, rfl, rfl, hlo1, hlo2, hlh, hhi1, hhi2, ⟨.inl HLH.out.1, .inl HLH.out.2⟩⟩
    case round =>
      clear hwc HLH hlo1 hlo2 hlh hhi1 hhi2
      obtain ⟨i, j, m1, o1, hw1, rfl, rfl, hai, hni, hij, hjd, hjm, HI⟩ := hrel
      by_cases hlt : i < j
      · obtain ⟨q, hq⟩ : ∃ q : Nat, q = (i + j) / 2 := ⟨_, rfl⟩
        have hmid2 : ((i : Int) + (j : Int)) / 2 = (q : Int) := by omega
        have hpb : i ≤ q ∧ q < j := by omega
        obtain ⟨p, hp⟩ : ∃ p : Nat, p = pp - q := ⟨_, rfl⟩
        have hpq2 : p = m + (mid - 1 - q) := by have := HPP.out; have := HNE.out; omega
        have hwpc : (pp : Int) - (q : Int) = (p : Int) := by have := HPP.out; have := HNE.out; omega
        have hpb2 : p < b := by have := HNE.out; omega
        have hwpp : IntKind.i64.wrap (p : Int) = (p : Int) := by rw [IntWalk.i64_in _ (by omega)]
        have hwpe : IntKind.i64.wrap ((pp : Int) - (q : Int)) = (p : Int) := by rw [hwpc, hwpp]
        obtain ⟨d1, hd1⟩ : ∃ d1 : Array Opr, d1 = d := ⟨_, rfl⟩
        have hs1 := Lib.hid (show d1.size = d0.size by rw [hd1]; exact HD0.out)
        have hsN : d1.size = N := by rw [hd1]; exact HN.out.symm
        have hpd : p < d1.size := by omega
        have hqd : q < d1.size := by omega
        have hpN : (p : Int) < (N : Int) := by omega
        have hqN : (q : Int) < (N : Int) := by omega
        have HQx := Lib.hid (show L[q - a]? = some d1[q]! from at_part (A := X) (Y := R ++ Y) (by rw [hd1, HD.out]) (by have := HM.out; omega) (by have := HA.out; omega))
        have HPx := Lib.hid (show R[mid - 1 - q]? = some d1[p]! from at_part (A := X ++ L) (Y := Y) (by rw [hd1, HD.out]; simp) (by have := HB.out; have := HNE.out; omega) (by have := HA.out; have := HM.out; simp; omega))
        rw [← hd1] at hw1
        have hcls : ∀ n' os', grow ((SW w blk off m1 d1 o1).drewN n') os' = SW w blk off (m1 + n') d1 (o1 ++ os') := fun n' os' => sortWorldK_grown_c Opr.cells 8 w blk off m1 n' d1 o1 os'
        have hcp : ∀ n' os', CellsAt (grow ((SW w blk off m1 d1 o1).drewN n') os') blk (off + p * 8) d1[p]!.cells := fun n' os' => by rw [hcls]; exact HH.out.cells _ d1 _ hs1.out hpd
        have hcq : ∀ n' os', CellsAt (grow ((SW w blk off m1 d1 o1).drewN n') os') blk (off + q * 8) d1[q]!.cells := fun n' os' => by rw [hcls]; exact HH.out.cells _ d1 _ hs1.out hqd
        have hcg : ∀ n' os', Calls Try.prog g (#[.agg d1[p]!.cells.toArray, .agg d1[q]!.cells.toArray] ++ cb) (grow ((SW w blk off m1 d1 o1).drewN n') os') fun e w' => e = .returned (.int .i64 (cf d1[p]! d1[q]!)) ∧ ∃ q' os'', w' = grow ((grow ((SW w blk off m1 d1 o1).drewN n') os').drewN q') os'' := fun n' os' => by rw [hcls]; exact HC.out.lays _ _ d1 hs1.out _ _
        have HK := Lib.hid (HC.out.less d1[p]! d1[q]!)
        generalize hP : d1[p]! = P at *
        generalize hQ : d1[q]! = Q at *
        rw [← hw1] at hcls hcp hcq hcg
        have CLS := Lib.hid hcls
        have x0 := fun n' os' => (hcp n' os').eight.1
        have x1 := fun n' os' => (hcp n' os').eight.2.1
        have x2 := fun n' os' => (hcp n' os').eight.2.2.1
        have x3 := fun n' os' => (hcp n' os').eight.2.2.2.1
        have x4 := fun n' os' => (hcp n' os').eight.2.2.2.2.1
        have x5 := fun n' os' => (hcp n' os').eight.2.2.2.2.2.1
        have x6 := fun n' os' => (hcp n' os').eight.2.2.2.2.2.2.1
        have x7 := fun n' os' => (hcp n' os').eight.2.2.2.2.2.2.2
        have y0 := fun n' os' => (hcq n' os').eight.1
        have y1 := fun n' os' => (hcq n' os').eight.2.1
        have y2 := fun n' os' => (hcq n' os').eight.2.2.1
        have y3 := fun n' os' => (hcq n' os').eight.2.2.2.1
        have y4 := fun n' os' => (hcq n' os').eight.2.2.2.2.1
        have y5 := fun n' os' => (hcq n' os').eight.2.2.2.2.2.1
        have y6 := fun n' os' => (hcq n' os').eight.2.2.2.2.2.2.1
        have y7 := fun n' os' => (hcq n' os').eight.2.2.2.2.2.2.2
        have HW1 := Lib.hid hw1
        clear hw1 hcls hcp hcq
        have HE := Lib.hid hd1
        clear hd1 hs1 hsN hpd hqd hq hp hpq2 hpb2 hP hQ
        by_cases hlv : cf P Q < 0
        · have HNX : Hid (((i = a ∨ i + b = n) ∨ ∀ x y, L[i - a - 1]? = some x → R[mid - i]? = some y → key x ≤ key y) ∧ ((q = mid ∨ q = m) ∨ ∀ x y, L[q - a]? = some x → R[mid - q - 1]? = some y → key y < key x)) := ⟨HI.out.1, .inr (fun x y hx hy => by
              rw [HQx.out] at hx
              rw [show mid - q - 1 = mid - 1 - q by omega, HPx.out] at hy
              injection hx with hx
              injection hy with hy
              rw [← hx, ← hy]; exact HK.out.1 hlv)⟩
          go_wp2_with fail
          go_quiet_grown (first | (go_at_fn g; refine Calls.grown_of (hcg _ _)))
          go_wp2
          refine ⟨⟨i, q, m1 + nq, o1 ++ osq, ?_, rfl, rfl, hai, hni, by omega, by omega, by omega, HNX⟩, ?_⟩
          · rw [CLS.out, HE.out]
          · simp [intOf]; omega
        · have HNX : Hid (((q + 1 = a ∨ q + 1 + b = n) ∨ ∀ x y, L[q + 1 - a - 1]? = some x → R[mid - (q + 1)]? = some y → key x ≤ key y) ∧ ((j = mid ∨ j = m) ∨ ∀ x y, L[j - a]? = some x → R[mid - j - 1]? = some y → key y < key x)) := ⟨.inr (fun x y hx hy => by
              rw [show q + 1 - a - 1 = q - a by omega, HQx.out] at hx
              rw [show mid - (q + 1) = mid - 1 - q by omega, HPx.out] at hy
              injection hx with hx
              injection hy with hy
              rw [← hx, ← hy]
              have := mt HK.out.2 hlv
              omega), HI.out.2⟩
          have hge : 0 ≤ cf P Q := by omega
          go_wp2_with fail
          go_quiet_grown (first | (go_at_fn g; refine Calls.grown_of (hcg _ _)))
          go_wp2
          all_goals try (rename_i hcnd; rw [show decide (cf P Q < 0) = false from decide_eq_false (by omega)] at hcnd; cases hcnd; done)
          refine ⟨⟨q + 1, j, m1 + nq, o1 ++ osq, ?_, by go_num, rfl, by omega, by omega, by omega, hjd, hjm, HNX⟩, ?_⟩
          · rw [CLS.out, HE.out]
          · simp [intOf]; omega
      · obtain rfl : i = j := by omega
        have hne : ¬ (i : Int) < (i : Int) := by omega
        obtain ⟨en, hen⟩ : ∃ en : Nat, en = n - i := ⟨_, rfl⟩
        have hwe : (n : Int) - (i : Int) = (en : Int) := by have := HNE.out; omega
        have hen2 : en = m + (mid - i) := by have := HNE.out; omega
        have hMid : mid + (m - i) = en := by omega
        have hsl : i - a ≤ L.length := by have := HM.out; omega
        have hel : mid - i ≤ R.length := by have := HB.out; have := HNE.out; omega
        have henb : m ≤ en ∧ en ≤ b ∧ mid ≤ en := by have := HB.out; omega
        have hcond := sym_conds HSL.out HSR.out (i - a) (mid - i)
          (by rcases HI.out.1 with (h | h) | h
              · exact .inl (by omega)
              · exact .inr (.inl (by have := HB.out; have := HNE.out; omega))
              · exact .inr (.inr h))
          (by rcases HI.out.2 with (h | h) | h
              · exact .inr (.inl (by omega))
              · exact .inl (by have := HM.out; omega)
              · exact .inr (.inr h)) hsl hel
        obtain ⟨L1, hL1⟩ : ∃ L1, L1 = L.take (i - a) := ⟨_, rfl⟩
        obtain ⟨U, hU⟩ : ∃ U, U = L.drop (i - a) := ⟨_, rfl⟩
        obtain ⟨V, hV⟩ : ∃ V, V = R.take (mid - i) := ⟨_, rfl⟩
        obtain ⟨R2, hR2⟩ : ∃ R2, R2 = R.drop (mid - i) := ⟨_, rfl⟩
        have hLU : L = L1 ++ U := by rw [hL1, hU, List.take_append_drop]
        have hVR : R = V ++ R2 := by rw [hV, hR2, List.take_append_drop]
        have l1 : L1.length = i - a := by rw [hL1, List.length_take]; omega
        have l2 : U.length = m - i := by rw [hU, List.length_drop]; have := HM.out; omega
        have l3 : V.length = mid - i := by rw [hV, List.length_take]; omega
        have l4 : R2.length = b - en := by rw [hR2, List.length_drop]; have := HB.out; omega
        rw [← hL1, ← hU, ← hV, ← hR2] at hcond
        have HCN := Lib.hid hcond
        have HLU := Lib.hid hLU
        have HVR := Lib.hid hVR
        have HL := Lib.hid (show L1.length = i - a ∧ U.length = m - i ∧ V.length = mid - i ∧ R2.length = b - en from ⟨l1, l2, l3, l4⟩)
        have HEN := Lib.hid hen2
        rename_i K0 a0
        have HKK := Lib.hid a0
        have HT := Lib.hid (show L1.length = i - a ∧ U.length = m - i ∧ V.length = mid - i ∧ R2.length = b - en ∧ L = L1 ++ U ∧ R = V ++ R2 from ⟨l1, l2, l3, l4, hLU, hVR⟩)
        have HCN := Lib.hid hcond
        have HAR := Lib.hid (show a ≤ i ∧ i ≤ mid ∧ i ≤ m ∧ mid + (m - i) = en ∧ m ≤ en ∧ en ≤ b ∧ mid ≤ en ∧ a < mid ∧ mid < b ∧ b ≤ N ∧ N ≤ 2000 ∧ a + 1 < m ∧ m + 1 < b ∧ en = m + (mid - i) ∧ en + i = n from ⟨hai, hjd, hjm, hMid, henb.1, henb.2.1, henb.2.2, hmab.1, hmab.2.1, hbn, hNb, ham2, hmb2, hen2, by omega⟩)
        clear hcond hL1 hU hV hR2 hLU hVR l1 l2 l3 l4 a0 hsl hel hen hen2 hwe hbig hNb hbn ham2 hmb2 hw0 hn12 hn22 hmid hwn hn4 hmab hwp hpp4 HPP hai hni hij hjd hjm hlt hMid henb HI
        subst hw1
        go_wp2_with fail
        have HAA := HAR.out
        have HTT := HT.out
        have sL := HSL.out
        have sR := HSR.out
        have hd := HD.out
        have hIH := HIH.out
        rw [HTT.2.2.2.2.1, HTT.2.2.2.2.2] at hd hIH
        rw [HTT.2.2.2.2.1] at sL
        rw [HTT.2.2.2.2.2] at sR
        refine HKK.out _ _ ?_
        rw [HTT.2.2.2.2.1, HTT.2.2.2.2.2]
        exact symTail HH.out hIH m1 d o1 HD0.out X L1 U V R2 Y hd sL sR HCN.out.1 HCN.out.2 a m b N mid i en n HA.out (by omega) (by omega) (by omega) (by omega) (by omega) (by omega) (by simp only [List.length_append]; have := HM.out; omega) (by simp only [List.length_append]; have := HM.out; omega) (by omega) HN.out _ _ _ _ _ _ _ _ _ _ _ _ _ _ _ _ _ _ _ _ _ _ _ _ _ _ _ _ _ _ _ _ _ _ _ _ _ _ _ _ _ _ _ _ _ _ _ _ _ _ _ _ _ _ _ _ _ _ _ _ _ _ _ _ _ _ _ _ _ _ _ _ _ _ _ _ _ _ _ _ _ _ _ _ _ _ _ _ _ _ _ _ _ _ _ _ _ _ _ _ _ _ _ _ _ _ _ _ _ _ _ _ _ _ _ _ _ _ _ _ _ _ _ _ _ _ _ _ _ _ _ _ _ _ _ _ _ _ _ _ _ _ _ _ _ _ _ _ _ _ _ _ _ _ _ _ _ _ _ _ _ _ _ _ _ _ _ _ _ _ _ _ _ _ _ _ _ _ _ _ _ _ _ _ _ _ _ _ _ _ _ _ _ _ _ _ _ _ _ _ _ _ _ _ _ _ _ _ _ _ _ _

end Go.Proofs.Ytolcgopfbbmjgaa
