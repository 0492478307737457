/- SiteAsks answers true for every input whose arguments hold together at most 1048576 values and letters, and leaves its arguments as they were; the listed package-level tables hold what the program's text lays. -/
import Derived.Test.YtognccpmaljamaaGreatDoorB5
set_option linter.unusedVariables false
set_option linter.unusedSimpArgs false
set_option linter.unusedSectionVars false
set_option linter.unnecessarySimpa false
set_option linter.constructorNameAsVariable false
set_option maxRecDepth 100000
/- Walks, printed by wip/sym.py. -/
namespace Go.Proofs.YtognccpmaljamaaGreatDoor.Sa
open Go

/-- url.Special -/
noncomputable def ak25 : AC := (.seq (.reg []) (.seq (.seq (.reg []) (.block (.seq (.seq (.reg []) (.cond .skip (.reg []))) (.cond (.seq (.reg []) .ret) (.seq (.seq (.reg []) (.cond .skip (.reg []))) (.cond (.seq (.reg []) .ret) (.seq (.reg []) (.cond (.seq (.reg []) .ret) .skip)))))))) (.seq (.reg []) .ret)))
theorem run25 (n : Nat) (a : List UInt8) (K : AVal → List (List AVal) → Option Res) : funA cx Sp0 n ak25 Tryz.f25 [.str a] [] K =
    (match a == ([104, 116, 116, 112] : List UInt8) with | true => K (.int .i64 (80 : Int)) [] | false => (match a == ([119, 115] : List UInt8) with | true => K (.int .i64 (80 : Int)) [] | false => (match a == ([104, 116, 116, 112, 115] : List UInt8) with | true => K (.int .i64 (443 : Int)) [] | false => (match a == ([119, 115, 115] : List UInt8) with | true => K (.int .i64 (443 : Int)) [] | false => (match a == ([102, 116, 112] : List UInt8) with | true => K (.int .i64 (21 : Int)) [] | false => K (.int .i64 (0 : Int)) []))))) := by kernel_rfl
/-- sprref7.Special -/
noncomputable def ak28 : AC := (.seq (.reg []) (.seq (.seq (.reg []) (.block (.seq (.seq (.reg []) (.cond .skip (.reg []))) (.cond (.seq (.reg []) .ret) (.seq (.seq (.reg []) (.cond .skip (.reg []))) (.cond (.seq (.reg []) .ret) (.seq (.reg []) (.cond (.seq (.reg []) .ret) .skip)))))))) (.seq (.reg []) .ret)))
theorem run28 (n : Nat) (a : List UInt8) (K : AVal → List (List AVal) → Option Res) : funA cx Sp0 n ak28 Tryz.f28 [.str a] [] K =
    (match a == ([104, 116, 116, 112] : List UInt8) with | true => K (.int .i64 (80 : Int)) [] | false => (match a == ([119, 115] : List UInt8) with | true => K (.int .i64 (80 : Int)) [] | false => (match a == ([104, 116, 116, 112, 115] : List UInt8) with | true => K (.int .i64 (443 : Int)) [] | false => (match a == ([119, 115, 115] : List UInt8) with | true => K (.int .i64 (443 : Int)) [] | false => (match a == ([102, 116, 112] : List UInt8) with | true => K (.int .i64 (21 : Int)) [] | false => K (.int .i64 (0 : Int)) []))))) := by kernel_rfl
/-- bytealg.LastIndexByteString -/
noncomputable def ak47 : AC := (.seq (.reg []) (.seq (.seq (.reg []) (.block (.loopk [0, 1, 5] (.seq (.seq (.reg []) (.cond .skip .exit)) (.seq (.block (.seq (.reg []) (.cond (.seq (.reg []) .ret) .skip))) (.reg [])))))) (.seq (.reg []) .ret)))
noncomputable def la47_0 : AC := match navA [1, 0, 1, 0] (ak47) with | .loopk _ a => a | a => a
noncomputable def lc47_0 : Code := match navC [1, 0, 1, 0] (bodyC Tryz.f47) with | .loop a => a | a => a
noncomputable def L47_0 (n m0 : Nat) (s_0 : List UInt8) (c_1 : Int) (i_5 : Int) (K : AVal → List (List AVal) → Option Res) : Option Res := lpA cx Sp0 n [0, 1, 5] la47_0 lc47_0 m0 (⟨[.str s_0, .int .u8 c_1, .undef, .undef, .undef, .int .i64 i_5, .undef, .undef, .undef, .undef, .undef, .undef, .undef, .undef, .undef, .undef, .undef, .undef, .undef], []⟩) (contA cx Sp0 n [1, 0, 1, 0] ak47 (bodyC Tryz.f47) (endK cx Tryz.f47 0 K))
theorem L47_0_step (n m0 : Nat) (s_0 : List UInt8) (c_1 : Int) (i_5 : Int) (K : AVal → List (List AVal) → Option Res) : L47_0 n  (m0 + 1) s_0 c_1 i_5 K =
    (match decide ((0 : Int) ≤ i_5) with | true => (match idx s_0 i_5 with | some c1 => (match (ofB c1) == c_1 with | true => K (.int .i64 i_5) [] | false => L47_0 n  m0 s_0 c_1 (IntKind.wrap .i64 (i_5 - (1 : Int))) K) | none => none) | false => K (.int .i64 (-1 : Int)) []) := by kernel_rfl
theorem run47 (n : Nat) (s : List UInt8) (c : Int) (K : AVal → List (List AVal) → Option Res) : funA cx Sp0 n ak47 Tryz.f47 [.str s, .int .u8 c] [] K =
    L47_0 n  n s c (IntKind.wrap .i64 ((s.length : Int) - (1 : Int))) K := by kernel_rfl
/-- stringslite.HasSuffix -/
noncomputable def ak48 : AC := (.seq (.reg []) (.seq (.reg []) .ret))
theorem run48 (n : Nat) (s : List UInt8) (t : List UInt8) (K : AVal → List (List AVal) → Option Res) : funA cx Sp0 n ak48 Tryz.f48 [.str s, .str t] [] K =
    (match decide ((t.length : Int) ≤ (s.length : Int)) with | true => gd (decide (0 ≤ IntKind.wrap .i64 ((s.length : Int) - (t.length : Int)) ∧ IntKind.wrap .i64 ((s.length : Int) - (t.length : Int)) ≤ (s.length : Int) ∧ (s.length : Int) ≤ (s.length : Int))) (K (.bool ((cut s ((IntKind.wrap .i64 ((s.length : Int) - (t.length : Int))).toNat) s.length) == t)) []) | false => K (.bool false) []) := by kernel_rfl
/-- sprref.Split -/
noncomputable def ak30 : AC := (.seq (.reg []) (.seq (.reg []) (.seq (.reg []) (.seq (.seq (.reg []) (.block (.loopk [0, 1, 5, 6, 7] (.seq (.seq (.reg []) (.cond .skip .exit)) (.seq (.block (.seq (.reg []) (.cond (.seq (.reg [[1], [], [], [], [], [], [], [1]]) (.reg [])) .skip))) (.reg [])))))) (.seq (.reg [[1], [1]]) .ret)))))
noncomputable def la30_0 : AC := match navA [1, 1, 1, 0, 1, 0] (ak30) with | .loopk _ a => a | a => a
noncomputable def lc30_0 : Code := match navC [1, 1, 1, 0, 1, 0] (bodyC Tryz.f30) with | .loop a => a | a => a
noncomputable def L30_0 (n m0 : Nat) (s_0 : List UInt8) (sign_1 : Int) (out_5 : List (List UInt8)) (from_6 : Int) (i_7 : Int) (K : AVal → List (List AVal) → Option Res) : Option Res := lpA cx Sp0 n [0, 1, 5, 6, 7] la30_0 lc30_0 m0 (⟨[.str s_0, .int .u8 sign_1, .undef, .undef, .undef, .strs true out_5, .int .i64 from_6, .int .i64 i_7, .undef, .undef, .undef, .undef, .undef, .undef, .undef, .undef, .undef, .undef, .undef, .undef, .undef, .undef, .undef, .undef, .undef, .undef, .undef, .undef, .undef, .undef, .undef, .undef, .undef, .undef, .undef], []⟩) (contA cx Sp0 n [1, 1, 1, 0, 1, 0] ak30 (bodyC Tryz.f30) (endK cx Tryz.f30 0 K))
theorem L30_0_step (n m0 : Nat) (s_0 : List UInt8) (sign_1 : Int) (out_5 : List (List UInt8)) (from_6 : Int) (i_7 : Int) (K : AVal → List (List AVal) → Option Res) : L30_0 n  (m0 + 1) s_0 sign_1 out_5 from_6 i_7 K =
    (match decide (i_7 ≤ (s_0.length : Int)) with | true => (match i_7 == (s_0.length : Int) with | true => gd (decide (0 ≤ from_6 ∧ from_6 ≤ i_7 ∧ i_7 ≤ (s_0.length : Int))) (gd (decide (out_5.length + ([cut s_0 from_6.toNat i_7.toNat] : List (List UInt8)).length ≤ LIM)) (L30_0 n  m0 s_0 sign_1 (out_5 ++ ([cut s_0 from_6.toNat i_7.toNat] : List (List UInt8))) (IntKind.wrap .i64 (i_7 + (1 : Int))) (IntKind.wrap .i64 (i_7 + (1 : Int))) K)) | false => (match idx s_0 i_7 with | some c1 => (match (ofB c1) == sign_1 with | true => gd (decide (0 ≤ from_6 ∧ from_6 ≤ i_7 ∧ i_7 ≤ (s_0.length : Int))) (gd (decide (out_5.length + ([cut s_0 from_6.toNat i_7.toNat] : List (List UInt8)).length ≤ LIM)) (L30_0 n  m0 s_0 sign_1 (out_5 ++ ([cut s_0 from_6.toNat i_7.toNat] : List (List UInt8))) (IntKind.wrap .i64 (i_7 + (1 : Int))) (IntKind.wrap .i64 (i_7 + (1 : Int))) K)) | false => L30_0 n  m0 s_0 sign_1 out_5 from_6 (IntKind.wrap .i64 (i_7 + (1 : Int))) K) | none => none)) | false => K (.strs true out_5) []) := by kernel_rfl
theorem run30 (n : Nat) (s : List UInt8) (c : Int) (K : AVal → List (List AVal) → Option Res) : funA cx Sp0 n ak30 Tryz.f30 [.str s, .int .u8 c] [] K =
    L30_0 n  n s c ([] : List (List UInt8)) (0 : Int) (0 : Int) K := by kernel_rfl
/-- sprref.CopyTexts -/
noncomputable def ak12 : AC := (.seq (.reg []) (.seq (.reg [[], [6], [], [1]]) .ret))
theorem run12 (n : Nat) (l : List (List UInt8)) (K : AVal → List (List AVal) → Option Res) : funA cx Sp0 n ak12 Tryz.f12 [.strs false l] [] K =
    gd (decide (([] : List (List UInt8)).length + l.length ≤ LIM)) (K (.strs true (([] : List (List UInt8)) ++ l)) []) := by kernel_rfl
/-- sprref.Texts -/
noncomputable def ak22 : AC := (.seq (.reg []) (.seq (.seq (.reg [[6], [], [6]]) (.cond (.seq (.reg []) .ret) .skip)) (.seq (.seq (.reg []) (.block (.loopk [0, 1, 5] (.seq (.seq (.reg [[], [6]]) (.cond .skip .exit)) (.seq (.block (.seq (.dreg [0, 1] (.step (.early 0) (.step (.early 1) (.step (.early 2) (.step (.early 3) (.step (.early 4) (.step (.early 5) (.step (.early 6) (.step (.early 7) (.step (.early 8) .done))))))))) [[6], [], [], [], [6]]) (.cond (.seq (.reg []) .ret) .skip))) (.reg [])))))) (.seq (.reg []) .ret))))
noncomputable def la22_0 : AC := match navA [1, 1, 0, 1, 0] (ak22) with | .loopk _ a => a | a => a
noncomputable def lc22_0 : Code := match navC [1, 1, 0, 1, 0] (bodyC Tryz.f22) with | .loop a => a | a => a
noncomputable def L22_0 (n m0 : Nat) (a_0 : List (List UInt8)) (b_1 : List (List UInt8)) (i_5 : Int) (K : AVal → List (List AVal) → Option Res) : Option Res := lpA cx Sp0 n [0, 1, 5] la22_0 lc22_0 m0 (⟨[.strs false a_0, .strs false b_1, .undef, .undef, .undef, .int .i64 i_5, .undef, .undef, .undef, .undef, .undef, .undef, .undef, .undef, .undef, .undef, .undef, .undef, .undef, .undef, .undef, .undef, .undef, .undef, .undef, .undef], []⟩) (contA cx Sp0 n [1, 1, 0, 1, 0] ak22 (bodyC Tryz.f22) (endK cx Tryz.f22 0 K))
theorem L22_0_step (n m0 : Nat) (a_0 : List (List UInt8)) (b_1 : List (List UInt8)) (i_5 : Int) (K : AVal → List (List AVal) → Option Res) : L22_0 n  (m0 + 1) a_0 b_1 i_5 K =
    (match decide (i_5 < (a_0.length : Int)) with | true => (match idx a_0 i_5 with | some s1 => (match idx b_1 i_5 with | some s2 => (match !(s1 == s2) with | true => K (.bool false) [] | false => L22_0 n  m0 a_0 b_1 (IntKind.wrap .i64 (i_5 + (1 : Int))) K) | none => none) | none => none) | false => K (.bool true) []) := by kernel_rfl
theorem run22 (n : Nat) (a : List (List UInt8)) (b : List (List UInt8)) (K : AVal → List (List AVal) → Option Res) : funA cx Sp0 n ak22 Tryz.f22 [.strs false a, .strs false b] [] K =
    (match !((a.length : Int) == (b.length : Int)) with | true => K (.bool false) [] | false => L22_0 n  n a b (0 : Int) K) := by kernel_rfl
/-- sprlaw11.few -/
noncomputable def ak11 : AC := (.seq (.reg []) (.seq (.seq (.reg []) (.block (.loopk [0, 3] (.seq (.seq (.reg [[], [6]]) (.cond .skip .exit)) (.seq (.block (.seq (.reg [[6]]) (.cond (.seq (.reg []) .ret) .skip))) (.reg [])))))) (.seq (.reg [[6]]) .ret)))
noncomputable def la11_0 : AC := match navA [1, 0, 1, 0] (ak11) with | .loopk _ a => a | a => a
noncomputable def lc11_0 : Code := match navC [1, 0, 1, 0] (bodyC Tryz.f11) with | .loop a => a | a => a
noncomputable def L11_0 (n m0 : Nat) (l_0 : List (List UInt8)) (i_3 : Int) (K : AVal → List (List AVal) → Option Res) : Option Res := lpA cx Sp0 n [0, 3] la11_0 lc11_0 m0 (⟨[.strs false l_0, .undef, .undef, .int .i64 i_3, .undef, .undef, .undef, .undef, .undef, .undef, .undef, .undef, .undef, .undef, .undef, .undef, .undef, .undef, .undef, .undef, .undef, .undef, .undef], []⟩) (contA cx Sp0 n [1, 0, 1, 0] ak11 (bodyC Tryz.f11) (endK cx Tryz.f11 0 K))
theorem L11_0_step (n m0 : Nat) (l_0 : List (List UInt8)) (i_3 : Int) (K : AVal → List (List AVal) → Option Res) : L11_0 n  (m0 + 1) l_0 i_3 K =
    (match decide (i_3 < (l_0.length : Int)) with | true => (match decide (i_3 < (100 : Int)) with | true => (match idx l_0 i_3 with | some s1 => (match decide ((300 : Int) < (s1.length : Int)) with | true => K (.bool false) [] | false => L11_0 n  m0 l_0 (IntKind.wrap .i64 (i_3 + (1 : Int))) K) | none => none) | false => K (.bool (decide ((l_0.length : Int) ≤ (100 : Int)))) []) | false => K (.bool (decide ((l_0.length : Int) ≤ (100 : Int)))) []) := by kernel_rfl
theorem run11 (n : Nat) (l : List (List UInt8)) (K : AVal → List (List AVal) → Option Res) : funA cx Sp0 n ak11 Tryz.f11 [.strs false l] [] K =
    L11_0 n  n l (0 : Int) K := by kernel_rfl
/-- sprlaw9.Few -/
noncomputable def ak6 : AC := (.seq (.reg [[1]]) (.seq (.reg []) (.seq (.seq (.reg []) (.block (.loopk [1, 3, 4] (.seq (.seq (.reg [[], [], [3]]) (.cond .skip .exit)) (.seq (.block (.reg [[], [], [2]])) (.reg [])))))) (.seq (.reg [[], [3]]) .ret))))
noncomputable def la6_0 : AC := match navA [1, 1, 0, 1, 0] (ak6) with | .loopk _ a => a | a => a
noncomputable def lc6_0 : Code := match navC [1, 1, 0, 1, 0] (bodyC Tryz.f6) with | .loop a => a | a => a
noncomputable def L6_0 (n m0 : Nat) (n_3 : Int) (h0_0 : List UInt8) (h0_1 : List UInt8) (h0_2 : List UInt8) (h0_3 : Bool) (h0_4 : Int) (h0_5 : List UInt8) (h0_6 : Int) (h0_7 : Int) (h0_8 : Int) (h0_9 : Int) (h0_10 : Int) (h0_11 : Int) (h0_12 : Int) (h0_13 : Int) (h0_14 : Int) (h0_15 : Int) (h0_16 : Bool) (h0_17 : List UInt8) (h0_18 : List (List UInt8)) (h0_19 : Bool) (h0_20 : List UInt8) (h0_21 : Bool) (h0_22 : List UInt8) (i_4 : Int) (K : AVal → List (List AVal) → Option Res) : Option Res := lpA cx Sp0 n [1, 3, 4] la6_0 lc6_0 m0 (⟨[.undef, .ptr 0 0, .undef, .int .i64 n_3, .int .i64 i_4, .undef, .undef, .undef, .undef, .undef, .undef, .undef, .undef, .undef, .undef, .undef, .undef, .undef, .undef, .undef, .undef, .undef, .undef, .undef, .undef, .undef, .undef, .undef, .undef, .undef, .undef, .undef, .undef, .undef, .undef, .undef, .undef, .undef, .undef, .undef, .undef, .undef, .undef, .undef, .undef, .undef, .undef, .undef, .undef, .undef, .undef, .undef, .undef, .undef, .undef, .undef, .undef, .undef, .undef, .undef, .undef, .undef], [[.str h0_0, .str h0_1, .str h0_2, .bool h0_3, .int .i64 h0_4, .str h0_5, .int .u32 h0_6, .int .u16 h0_7, .int .u16 h0_8, .int .u16 h0_9, .int .u16 h0_10, .int .u16 h0_11, .int .u16 h0_12, .int .u16 h0_13, .int .u16 h0_14, .int .i64 h0_15, .bool h0_16, .str h0_17, .strs false h0_18, .bool h0_19, .str h0_20, .bool h0_21, .str h0_22]]⟩) (contA cx Sp0 n [1, 1, 0, 1, 0] ak6 (bodyC Tryz.f6) (endK cx Tryz.f6 0 K))
theorem L6_0_step (n m0 : Nat) (n_3 : Int) (h0_0 : List UInt8) (h0_1 : List UInt8) (h0_2 : List UInt8) (h0_3 : Bool) (h0_4 : Int) (h0_5 : List UInt8) (h0_6 : Int) (h0_7 : Int) (h0_8 : Int) (h0_9 : Int) (h0_10 : Int) (h0_11 : Int) (h0_12 : Int) (h0_13 : Int) (h0_14 : Int) (h0_15 : Int) (h0_16 : Bool) (h0_17 : List UInt8) (h0_18 : List (List UInt8)) (h0_19 : Bool) (h0_20 : List UInt8) (h0_21 : Bool) (h0_22 : List UInt8) (i_4 : Int) (K : AVal → List (List AVal) → Option Res) : L6_0 n  (m0 + 1) n_3 h0_0 h0_1 h0_2 h0_3 h0_4 h0_5 h0_6 h0_7 h0_8 h0_9 h0_10 h0_11 h0_12 h0_13 h0_14 h0_15 h0_16 h0_17 h0_18 h0_19 h0_20 h0_21 h0_22 i_4 K =
    (match decide (i_4 < (h0_18.length : Int)) with | true => (match decide (i_4 < (300 : Int)) with | true => (match idx h0_18 i_4 with | some s1 => L6_0 n  m0 (if (80000 : Int) < (IntKind.wrap .i64 (n_3 + (if (20000 : Int) < (s1.length : Int) then (20000 : Int) else (s1.length : Int)))) then (80000 : Int) else IntKind.wrap .i64 (n_3 + (if (20000 : Int) < (s1.length : Int) then (20000 : Int) else (s1.length : Int)))) h0_0 h0_1 h0_2 h0_3 h0_4 h0_5 h0_6 h0_7 h0_8 h0_9 h0_10 h0_11 h0_12 h0_13 h0_14 h0_15 h0_16 h0_17 h0_18 h0_19 h0_20 h0_21 h0_22 (IntKind.wrap .i64 (i_4 + (1 : Int))) K | none => none) | false => (match decide ((h0_18.length : Int) ≤ (300 : Int)) with | true => K (.bool (decide (n_3 ≤ (20000 : Int)))) [] | false => K (.bool false) [])) | false => (match decide ((h0_18.length : Int) ≤ (300 : Int)) with | true => K (.bool (decide (n_3 ≤ (20000 : Int)))) [] | false => K (.bool false) [])) := by kernel_rfl
theorem run6 (n : Nat) (u : URLV) (K : AVal → List (List AVal) → Option Res) : funA cx Sp0 n ak6 Tryz.f6 [.agg [.str u.sc, .str u.us, .str u.pw, .bool u.hh, .int .i64 u.h.k, .str u.h.n, .int .u32 u.h.f, .int .u16 u.h.p0, .int .u16 u.h.p1, .int .u16 u.h.p2, .int .u16 u.h.p3, .int .u16 u.h.p4, .int .u16 u.h.p5, .int .u16 u.h.p6, .int .u16 u.h.p7, .int .i64 u.po, .bool u.dk, .str u.tx, .strs false u.pa, .bool u.hq, .str u.qu, .bool u.hf, .str u.fr]] [] K =
    L6_0 n  n (IntKind.wrap .i64 ((IntKind.wrap .i64 ((IntKind.wrap .i64 ((IntKind.wrap .i64 ((IntKind.wrap .i64 ((IntKind.wrap .i64 ((u.sc.length : Int) + (u.us.length : Int))) + (u.pw.length : Int))) + (u.h.n.length : Int))) + (u.tx.length : Int))) + (u.qu.length : Int))) + (u.fr.length : Int))) u.sc u.us u.pw u.hh u.h.k u.h.n u.h.f u.h.p0 u.h.p1 u.h.p2 u.h.p3 u.h.p4 u.h.p5 u.h.p6 u.h.p7 u.po u.dk u.tx u.pa u.hq u.qu u.hf u.fr (0 : Int) K := by kernel_rfl
/-- sprref.Host -/
noncomputable def ak31 : AC := (.seq (.reg []) (.seq (.reg []) .ret))
theorem run31 (n : Nat) (a : HostV) (b : HostV) (K : AVal → List (List AVal) → Option Res) : funA cx Sp0 n ak31 Tryz.f31 [.agg [.int .i64 a.k, .str a.n, .int .u32 a.f, .int .u16 a.p0, .int .u16 a.p1, .int .u16 a.p2, .int .u16 a.p3, .int .u16 a.p4, .int .u16 a.p5, .int .u16 a.p6, .int .u16 a.p7], .agg [.int .i64 b.k, .str b.n, .int .u32 b.f, .int .u16 b.p0, .int .u16 b.p1, .int .u16 b.p2, .int .u16 b.p3, .int .u16 b.p4, .int .u16 b.p5, .int .u16 b.p6, .int .u16 b.p7]] [] K =
    (match a.k == b.k with | true => (match a.n == b.n with | true => (match a.f == b.f with | true => K (.bool ((a.p0 == b.p0) && ((a.p1 == b.p1) && ((a.p2 == b.p2) && ((a.p3 == b.p3) && ((a.p4 == b.p4) && ((a.p5 == b.p5) && ((a.p6 == b.p6) && ((a.p7 == b.p7) && true))))))))) [] | false => K (.bool false) []) | false => K (.bool false) []) | false => K (.bool false) []) := by kernel_rfl
/-- ip.Print4 -/
noncomputable def ak41 : AC := (.seq (.reg []) (.seq (.reg []) (.seq (.seq (.reg []) (.block (.loopk [0, 3, 5] (.seq (.reg []) (.seq (.cond .skip .exit) (.seq (.block (.seq (.reg []) (.reg [[1], [], [], [], [], [], [], [], [], [], [], [1]]))) (.reg []))))))) (.seq (.reg [[1], [2]]) .ret))))
theorem run41  (x : Int) (K : AVal → List (List AVal) → Option Res) : funA cx Sp0 6 ak41 Tryz.f41 [.int .u32 x] [] K =
    gd (inI64 (IntKind.wrap .i64 (bits2 .and .u32 (shr2 .u32 x (24 : Int)) (255 : Int)))) (gd (inI64 (IntKind.wrap .i64 (bits2 .and .u32 (shr2 .u32 x (16 : Int)) (255 : Int)))) (gd (inI64 (IntKind.wrap .i64 (bits2 .and .u32 (shr2 .u32 x (8 : Int)) (255 : Int)))) (gd (inI64 (IntKind.wrap .i64 (bits2 .and .u32 (shr2 .u32 x (0 : Int)) (255 : Int)))) (gd (decide ((joinL ([46] : List UInt8) ([decL (IntKind.wrap .i64 (bits2 .and .u32 (shr2 .u32 x (24 : Int)) (255 : Int))), decL (IntKind.wrap .i64 (bits2 .and .u32 (shr2 .u32 x (16 : Int)) (255 : Int))), decL (IntKind.wrap .i64 (bits2 .and .u32 (shr2 .u32 x (8 : Int)) (255 : Int))), decL (IntKind.wrap .i64 (bits2 .and .u32 (shr2 .u32 x (0 : Int)) (255 : Int)))] : List (List UInt8))).length ≤ LIM) && decide (([decL (IntKind.wrap .i64 (bits2 .and .u32 (shr2 .u32 x (24 : Int)) (255 : Int))), decL (IntKind.wrap .i64 (bits2 .and .u32 (shr2 .u32 x (16 : Int)) (255 : Int))), decL (IntKind.wrap .i64 (bits2 .and .u32 (shr2 .u32 x (8 : Int)) (255 : Int))), decL (IntKind.wrap .i64 (bits2 .and .u32 (shr2 .u32 x (0 : Int)) (255 : Int)))] : List (List UInt8)).length ≤ LIM)) (K (.str (joinL ([46] : List UInt8) ([decL (IntKind.wrap .i64 (bits2 .and .u32 (shr2 .u32 x (24 : Int)) (255 : Int))), decL (IntKind.wrap .i64 (bits2 .and .u32 (shr2 .u32 x (16 : Int)) (255 : Int))), decL (IntKind.wrap .i64 (bits2 .and .u32 (shr2 .u32 x (8 : Int)) (255 : Int))), decL (IntKind.wrap .i64 (bits2 .and .u32 (shr2 .u32 x (0 : Int)) (255 : Int)))] : List (List UInt8)))) []))))) := by kernel_rfl

end Go.Proofs.YtognccpmaljamaaGreatDoor.Sa

/- Laws of the first layer's functions. -/
namespace Go.Proofs.YtognccpmaljamaaGreatDoor.Sa
open Go

theorem LIM_eq : LIM = 2147483648 := rfl
theorem BIG_eq : BIG = 1073741824 := rfl

theorem gd_true {c : Bool} {x : Option Res} (h : c = true) : gd c x = x := by rw [h]; rfl
theorem gd_dec {p : Prop} [Decidable p] {x : Option Res} (h : p) : gd (decide p) x = x := gd_true (decide_eq_true h)

theorem idx_at {α : Type} {l : List α} {i : Int} (h0 : 0 ≤ i) (h : i.toNat < l.length) : idx l i = some l[i.toNat] := by
  unfold idx
  rw [if_pos h0, List.getElem?_eq_getElem h]

theorem law25 (a : List UInt8) (hg : true = true) : ∃ n, ∀ K, funA cx Sp0 n ak25 Tryz.f25 [.str a] [] K = K (.int .i64 (spSpecial a)) [] := by
  refine ⟨0, fun K => ?_⟩
  rw [run25]
  unfold spSpecial
  generalize (a == ([104, 116, 116, 112] : List UInt8)) = b1
  generalize (a == ([119, 115] : List UInt8)) = b2
  generalize (a == ([104, 116, 116, 112, 115] : List UInt8)) = b3
  generalize (a == ([119, 115, 115] : List UInt8)) = b4
  generalize (a == ([102, 116, 112] : List UInt8)) = b5
  cases b1 <;> cases b2 <;> cases b3 <;> cases b4 <;> cases b5 <;> rfl

theorem law28 (a : List UInt8) (hg : true = true) : ∃ n, ∀ K, funA cx Sp0 n ak28 Tryz.f28 [.str a] [] K = K (.int .i64 (spSpecial a)) [] := by
  refine ⟨0, fun K => ?_⟩
  rw [run28]
  unfold spSpecial
  generalize (a == ([104, 116, 116, 112] : List UInt8)) = b1
  generalize (a == ([119, 115] : List UInt8)) = b2
  generalize (a == ([104, 116, 116, 112, 115] : List UInt8)) = b3
  generalize (a == ([119, 115, 115] : List UInt8)) = b4
  generalize (a == ([102, 116, 112] : List UInt8)) = b5
  cases b1 <;> cases b2 <;> cases b3 <;> cases b4 <;> cases b5 <;> rfl

/-! ### the last place of a sign -/
theorem lastB_lo (c : Int) : ∀ s : List UInt8, -1 ≤ lastB c s ∧ lastB c s < s.length
  | [] => by simp [lastB]
  | b :: s => by
    have := lastB_lo c s
    unfold lastB
    split
    · simp; omega
    · split <;> simp <;> omega

theorem lastB_snoc (c : Int) (b : UInt8) : ∀ s : List UInt8, lastB c (s ++ [b]) = if ofB b == c then (s.length : Int) else lastB c s
  | [] => by simp [lastB]
  | a :: s => by
    have ih := lastB_snoc c b s
    have lo := lastB_lo c s
    rw [List.cons_append, lastB, ih]
    by_cases h : (ofB b == c) = true
    · simp only [h, if_true]
      rw [if_pos (by omega)]
      simp
    · simp only [h, if_false]
      rw [lastB]
      simp

theorem loop47 (n : Nat) (s : List UInt8) (c : Int) (hs : s.length ≤ BIG) (K : AVal → List (List AVal) → Option Res) : ∀ (d m : Nat) (i : Int), (i + 1).toNat = d → d < m → -1 ≤ i → i < s.length → L47_0 n m s c i K = K (.int .i64 (lastB c (s.take d))) []
  | 0, m, i, hd, hm, h0, h1 => by
    obtain ⟨m, rfl⟩ : ∃ k, m = k + 1 := ⟨m - 1, by omega⟩
    rw [L47_0_step]
    have : ¬ 0 ≤ i := by omega
    simp [this, lastB]
  | d + 1, m, i, hd, hm, h0, h1 => by
    obtain ⟨m, rfl⟩ : ∃ k, m = k + 1 := ⟨m - 1, by omega⟩
    have hi : 0 ≤ i := by omega
    have hlt : i.toNat < s.length := by omega
    have hid : i.toNat = d := by omega
    rw [L47_0_step, idx_at hi hlt]
    rw [BIG_eq] at hs
    have ht : s.take (d + 1) = s.take d ++ [s[i.toNat]] := by
      have : d < s.length := by omega
      rw [List.take_succ_eq_append_getElem this]
      simp [hid]
    simp only [hi, decide_true]
    rw [ht, lastB_snoc]
    cases hb : (ofB s[i.toNat] == c)
    · simp only [Bool.false_eq_true, if_false]
      rw [wrap64_id (by omega) (by omega)]
      exact loop47 n s c (by rw [BIG_eq]; exact hs) K d m (i - 1) (by omega) (by omega) (by omega) (by omega)
    · simp only [if_true]
      rw [List.length_take]
      congr 2
      omega

theorem law47 (s : List UInt8) (c : Int) (hg : decide (s.length ≤ BIG) = true) : ∃ n, ∀ K, funA cx Sp0 n ak47 Tryz.f47 [.str s, .int .u8 c] [] K = K (.int .i64 (lastB c s)) [] := by
  have hs := of_decide_eq_true hg
  refine ⟨s.length + 1, fun K => ?_⟩
  have hs' := hs
  rw [BIG_eq] at hs'
  rw [run47, wrap64_id (by omega) (by omega), loop47 _ s c hs K s.length _ _ (by omega) (by omega) (by omega) (by omega), List.take_length]

/-! ### ends -/
theorem law48 (s t : List UInt8) (hg : (decide (s.length ≤ BIG) && decide (t.length ≤ BIG)) = true) : ∃ n, ∀ K, funA cx Sp0 n ak48 Tryz.f48 [.str s, .str t] [] K = K (.bool (endsW s t)) [] := by
  rw [Bool.and_eq_true] at hg
  have h1 := of_decide_eq_true hg.1
  have h2 := of_decide_eq_true hg.2
  rw [BIG_eq] at h1 h2
  refine ⟨0, fun K => ?_⟩
  rw [run48]
  unfold endsW
  by_cases h : t.length ≤ s.length
  · rw [wrap64_id (by omega) (by omega)]
    have hh : ((t.length : Int) ≤ (s.length : Int)) := by omega
    simp only [hh, decide_true, h, Bool.true_and]
    rw [gd_dec ⟨by omega, by omega, by first | trivial | omega⟩]
    have e : ((s.length : Int) - (t.length : Int)).toNat = s.length - t.length := by omega
    rw [e]
    have : cut s (s.length - t.length) s.length = s.drop (s.length - t.length) := by
      unfold cut
      rw [List.take_of_length_le]
      simp
    rw [this]
  · have hh : ¬ ((t.length : Int) ≤ (s.length : Int)) := by omega
    simp only [hh, h, decide_false, Bool.false_and]

/-! ### texts by signs -/
theorem getD_at {s : List UInt8} {i : Nat} (h : i < s.length) : s.getD i 0 = s[i] := by simp [List.getD, h]

theorem splitG_last (c : Int) (s : List UInt8) : ∀ (d i : Nat) (out : List (List UInt8)), i + d = s.length → ∃ out', splitG c s d i (lastB c (s.take i) + 1).toNat out = out' ++ [cut s (lastB c s + 1).toNat s.length] ∧ out'.length ≤ out.length + d
  | 0, i, out, h => by
    have hi : i = s.length := by omega
    subst hi
    rw [List.take_length]
    exact ⟨out, rfl, by omega⟩
  | d + 1, i, out, h => by
    have hlt : i < s.length := by omega
    have ht : s.take (i + 1) = s.take i ++ [s[i]] := by rw [List.take_succ_eq_append_getElem hlt]
    have hl : lastB c (s.take (i + 1)) = if ofB s[i] == c then (i : Int) else lastB c (s.take i) := by
      rw [ht, lastB_snoc, List.length_take, Nat.min_eq_left (by omega)]
    unfold splitG
    rw [getD_at hlt]
    cases hb : (ofB s[i] == c)
    · rw [hb] at hl
      simp only [Bool.false_eq_true, if_false] at hl
      obtain ⟨o, h1, h2⟩ := splitG_last c s d (i + 1) out (by omega)
      rw [hl] at h1
      exact ⟨o, h1, by omega⟩
    · rw [hb] at hl
      simp only [if_true] at hl
      obtain ⟨o, h1, h2⟩ := splitG_last c s d (i + 1) (out ++ [cut s (lastB c (s.take i) + 1).toNat i]) (by omega)
      rw [hl] at h1
      refine ⟨o, ?_, by simp at h2; omega⟩
      have e : ((i : Int) + 1).toNat = i + 1 := by omega
      rw [e] at h1
      exact h1

theorem splitB_last (c : Int) (s : List UInt8) : ∃ out', splitB c s = out' ++ [cut s (lastB c s + 1).toNat s.length] ∧ out'.length ≤ s.length := by
  obtain ⟨o, h1, h2⟩ := splitG_last c s s.length 0 [] (by omega)
  exact ⟨o, h1, by simpa using h2⟩

theorem loop30 (n : Nat) (s : List UInt8) (c : Int) (hs : s.length ≤ BIG) (K : AVal → List (List AVal) → Option Res) : ∀ (d m i f : Nat) (out : List (List UInt8)), i + d = s.length → d + 1 < m → f ≤ i → out.length ≤ i → L30_0 n m s c out (f : Int) (i : Int) K = K (.strs true (splitG c s d i f out)) []
  | 0, m, i, f, out, h, hm, hf, ho => by
    rw [BIG_eq] at hs
    obtain ⟨m, rfl⟩ : ∃ k, m = k + 2 := ⟨m - 2, by omega⟩
    have hi : i = s.length := by omega
    subst hi
    rw [L30_0_step]
    simp only [Int.le_refl, decide_true, BEq.rfl]
    rw [gd_dec ⟨by omega, by omega, by first | trivial | omega⟩, gd_dec (by rw [LIM_eq, List.length_singleton]; omega)]
    rw [wrap64_id (by omega) (by omega), L30_0_step]
    have : ¬ ((s.length : Int) + 1 ≤ (s.length : Int)) := by omega
    simp only [this, decide_false]
    rfl
  | d + 1, m, i, f, out, h, hm, hf, ho => by
    have hs' := hs
    rw [BIG_eq] at hs'
    obtain ⟨m, rfl⟩ : ∃ k, m = k + 1 := ⟨m - 1, by omega⟩
    have hlt : i < s.length := by omega
    rw [L30_0_step]
    have h1 : ((i : Int) ≤ (s.length : Int)) := by omega
    have h2 : (((i : Int) == (s.length : Int)) = false) := by
      rw [beq_eq_false_iff_ne]; omega
    simp only [h1, decide_true, h2]
    rw [idx_at (by omega) (by simpa using hlt)]
    simp only [Int.toNat_natCast]
    unfold splitG
    rw [getD_at hlt, wrap64_id (by omega) (by omega)]
    cases hb : (ofB s[i] == c)
    · exact loop30 n s c hs K d m (i + 1) f out (by omega) (by omega) (by omega) (by omega)
    · simp only
      rw [gd_dec ⟨by omega, by omega, by first | trivial | omega⟩, gd_dec (by rw [LIM_eq, List.length_singleton]; omega)]
      exact loop30 n s c hs K d m (i + 1) (i + 1) _ (by omega) (by omega) (by omega) (by simp; omega)

theorem law30 (s : List UInt8) (c : Int) (hg : decide (s.length ≤ BIG) = true) : ∃ n, ∀ K, funA cx Sp0 n ak30 Tryz.f30 [.str s, .int .u8 c] [] K = K (.strs true (splitB c s)) [] := by
  have hs := of_decide_eq_true hg
  refine ⟨s.length + 2, fun K => ?_⟩
  rw [run30]
  exact loop30 _ s c hs K s.length _ 0 0 [] (by omega) (by omega) (by omega) (by simp)

/-! ### lists of texts -/
theorem law12 (l : List (List UInt8)) (hg : decide (l.length ≤ BIG) = true) : ∃ n, ∀ K, funA cx Sp0 n ak12 Tryz.f12 [.strs false l] [] K = K (.strs true l) [] := by
  have hs := of_decide_eq_true hg
  refine ⟨0, fun K => ?_⟩
  rw [run12, gd_dec (by rw [LIM_eq]; rw [BIG_eq] at hs; simp; omega)]
  rfl

theorem beq_drop {a b : List (List UInt8)} {i : Nat} (h : i < a.length) (h' : i < b.length) : (a.drop i == b.drop i) = (a[i] == b[i] && a.drop (i + 1) == b.drop (i + 1)) := by
  rw [List.drop_eq_getElem_cons h, List.drop_eq_getElem_cons h']
  rfl

theorem loop22 (n : Nat) (a b : List (List UInt8)) (hs : a.length ≤ BIG) (hl : a.length = b.length) (K : AVal → List (List AVal) → Option Res) : ∀ (d m i : Nat), i + d = a.length → d < m → L22_0 n m a b (i : Int) K = K (.bool (a.drop i == b.drop i)) []
  | 0, m, i, h, hm => by
    obtain ⟨m, rfl⟩ : ∃ k, m = k + 1 := ⟨m - 1, by omega⟩
    rw [L22_0_step]
    have : ¬ ((i : Int) < (a.length : Int)) := by omega
    simp only [this, decide_false]
    rw [List.drop_of_length_le (by omega), List.drop_of_length_le (by omega)]
    rfl
  | d + 1, m, i, h, hm => by
    have hs' := hs
    rw [BIG_eq] at hs'
    obtain ⟨m, rfl⟩ : ∃ k, m = k + 1 := ⟨m - 1, by omega⟩
    rw [L22_0_step]
    have h1 : ((i : Int) < (a.length : Int)) := by omega
    have hia : i < a.length := by omega
    have hib : i < b.length := by omega
    simp only [h1, decide_true]
    rw [idx_at (by omega) (by simpa using hia), idx_at (by omega) (by simpa using hib)]
    simp only [Int.toNat_natCast]
    rw [beq_drop hia hib]
    cases hb : (a[i] == b[i])
    · simp only [Bool.not_false, Bool.false_and]
    · simp only [Bool.not_true, Bool.true_and]
      rw [wrap64_id (by omega) (by omega)]
      exact loop22 n a b hs hl K d m (i + 1) (by omega) (by omega)

theorem law22 (a b : List (List UInt8)) (hg : (decide (a.length ≤ BIG) && decide (b.length ≤ BIG)) = true) : ∃ n, ∀ K, funA cx Sp0 n ak22 Tryz.f22 [.strs false a, .strs false b] [] K = K (.bool (a == b)) [] := by
  rw [Bool.and_eq_true] at hg
  have h1 := of_decide_eq_true hg.1
  refine ⟨a.length + 1, fun K => ?_⟩
  rw [run22]
  by_cases h : a.length = b.length
  · have : ((a.length : Int) == (b.length : Int)) = true := by rw [beq_iff_eq]; omega
    simp only [this, Bool.not_true]
    exact loop22 _ a b h1 h K a.length _ 0 (by omega) (by omega)
  · have : ((a.length : Int) == (b.length : Int)) = false := by rw [beq_eq_false_iff_ne]; omega
    simp only [this, Bool.not_false]
    have e : (a == b) = false := by
      rw [beq_eq_false_iff_ne]
      intro e; exact h (by rw [e])
    rw [e]

theorem loop11 (n : Nat) (l : List (List UInt8)) (hs : l.length ≤ BIG) (K : AVal → List (List AVal) → Option Res) : ∀ (d m i : Nat), i + d = min l.length 100 → d < m → L11_0 n m l (i : Int) K = K (.bool (((l.drop i).take d).all (fun s => decide (s.length ≤ 300)) && decide (l.length ≤ 100))) []
  | 0, m, i, h, hm => by
    obtain ⟨m, rfl⟩ : ∃ k, m = k + 1 := ⟨m - 1, by omega⟩
    rw [L11_0_step]
    have e : decide ((l.length : Int) ≤ 100) = decide (l.length ≤ 100) := by
      congr 1; apply propext; omega
    by_cases hi : (i : Int) < (l.length : Int)
    · have h2 : ¬ ((i : Int) < 100) := by omega
      simp only [hi, decide_true, h2, decide_false, e]
      simp
    · simp only [hi, decide_false, e]
      simp
  | d + 1, m, i, h, hm => by
    have hs' := hs
    rw [BIG_eq] at hs'
    obtain ⟨m, rfl⟩ : ∃ k, m = k + 1 := ⟨m - 1, by omega⟩
    have hi : i < l.length := by omega
    have h1 : (i : Int) < (l.length : Int) := by omega
    have h2 : (i : Int) < 100 := by omega
    rw [L11_0_step]
    simp only [h1, decide_true, h2]
    rw [idx_at (by omega) (by simpa using hi)]
    simp only [Int.toNat_natCast]
    rw [List.drop_eq_getElem_cons hi, List.take_succ_cons, List.all_cons]
    by_cases h3 : l[i].length ≤ 300
    · have h4 : ¬ ((300 : Int) < (l[i].length : Int)) := by omega
      simp only [h4, decide_false, h3, decide_true, Bool.true_and]
      rw [wrap64_id (by omega) (by omega)]
      exact loop11 n l hs K d m (i + 1) (by omega) (by omega)
    · have h4 : ((300 : Int) < (l[i].length : Int)) := by omega
      simp only [h4, decide_true, h3, decide_false, Bool.false_and]

theorem law11 (l : List (List UInt8)) (hg : decide (l.length ≤ BIG) = true) : ∃ n, ∀ K, funA cx Sp0 n ak11 Tryz.f11 [.strs false l] [] K = K (.bool (spfew l)) [] := by
  have hs := of_decide_eq_true hg
  refine ⟨102, fun K => ?_⟩
  have := loop11 102 l hs K (min l.length 100) 102 0 (by omega) (by omega)
  rw [run11]
  refine Eq.trans this ?_
  unfold spfew
  rw [List.drop_zero]
  congr 4
  rcases Nat.le_total l.length 100 with h | h
  · rw [Nat.min_eq_left h, List.take_length, List.take_of_length_le h]
  · rw [Nat.min_eq_right h]

theorem law31 (a b : HostV) (hg : true = true) : ∃ n, ∀ K, funA cx Sp0 n ak31 Tryz.f31 [.agg (hostC a), .agg (hostC b)] [] K = K (.bool (hostEq a b)) [] := by
  refine ⟨0, fun K => ?_⟩
  rw [run31]
  unfold hostEq
  cases a.k == b.k <;> cases a.n == b.n <;> cases a.f == b.f <;> simp

/-! ### an address's length -/
theorem loop6 (n : Nat) (a0 a1 a2 : List UInt8) (a3 : Bool) (a4 : Int) (a5 : List UInt8) (a6 a7 a8 a9 a10 a11 a12 a13 a14 a15 : Int) (a16 : Bool) (a17 : List UInt8) (pa : List (List UInt8)) (a19 : Bool) (a20 : List UInt8) (a21 : Bool) (a22 : List UInt8) (K : AVal → List (List AVal) → Option Res) :
    ∀ (d m i : Nat) (x : Int), i + d = min pa.length 300 → d < m → L6_0 n m x a0 a1 a2 a3 a4 a5 a6 a7 a8 a9 a10 a11 a12 a13 a14 a15 a16 a17 pa a19 a20 a21 a22 (i : Int) K = K (.bool (decide ((pa.length : Int) ≤ 300) && decide (fewN ((pa.drop i).take d) x ≤ 20000))) []
  | 0, m, i, x, h, hm => by
    obtain ⟨m, rfl⟩ : ∃ k, m = k + 1 := ⟨m - 1, by omega⟩
    rw [L6_0_step]
    by_cases hp : (pa.length : Int) ≤ 300
    · have hi : ¬ ((i : Int) < (pa.length : Int)) := by omega
      simp only [hi, decide_false, hp, decide_true]
      simp [fewN]
    · have hi : ((i : Int) < (pa.length : Int)) := by omega
      have h3 : ¬ ((i : Int) < 300) := by omega
      simp only [hi, h3, decide_false, hp, decide_true]
      simp
  | d + 1, m, i, x, h, hm => by
    obtain ⟨m, rfl⟩ : ∃ k, m = k + 1 := ⟨m - 1, by omega⟩
    have hi : i < pa.length := by omega
    have h1 : (i : Int) < (pa.length : Int) := by omega
    have h2 : (i : Int) < 300 := by omega
    rw [L6_0_step]
    simp only [h1, decide_true, h2]
    rw [idx_at (by omega) (by simpa using hi)]
    simp only [Int.toNat_natCast]
    rw [List.drop_eq_getElem_cons hi, List.take_succ_cons, fewN]
    rw [wrap64_id (x := (i : Int) + 1) (by omega) (by omega)]
    exact loop6 n a0 a1 a2 a3 a4 a5 a6 a7 a8 a9 a10 a11 a12 a13 a14 a15 a16 a17 pa a19 a20 a21 a22 K d m (i + 1) _ (by omega) (by omega)

theorem law6 (u : URLV) (hg : true = true) : ∃ n, ∀ K, funA cx Sp0 n ak6 Tryz.f6 [.agg (urlC u)] [] K = K (.bool (spFew u)) [] := by
  refine ⟨301, fun K => ?_⟩
  rw [run6]
  have := loop6 301 u.sc u.us u.pw u.hh u.h.k u.h.n u.h.f u.h.p0 u.h.p1 u.h.p2 u.h.p3 u.h.p4 u.h.p5 u.h.p6 u.h.p7 u.po u.dk u.tx u.pa u.hq u.qu u.hf u.fr K (min u.pa.length 300) 301 0 (IntKind.wrap .i64 ((IntKind.wrap .i64 ((IntKind.wrap .i64 ((IntKind.wrap .i64 ((IntKind.wrap .i64 ((IntKind.wrap .i64 ((u.sc.length : Int) + (u.us.length : Int))) + (u.pw.length : Int))) + (u.h.n.length : Int))) + (u.tx.length : Int))) + (u.qu.length : Int))) + (u.fr.length : Int))) (by omega) (by omega)
  refine Eq.trans this ?_
  unfold spFew
  rw [List.drop_zero]
  congr 5
  rcases Nat.le_total u.pa.length 300 with h | h
  · rw [Nat.min_eq_left h, List.take_length, List.take_of_length_le h]
  · rw [Nat.min_eq_right h]

/-! ### numbers in digits -/
theorem natL_len (b : Nat) : ∀ (f n : Nat) (acc : List UInt8), (natL b f n acc).length ≤ acc.length + f
  | 0, n, acc => by simp [natL]
  | f + 1, n, acc => by
    unfold natL
    split
    · simp only [List.length_cons]; omega
    · have := natL_len b f (n / b) (digitL (n % b) :: acc)
      simp only [List.length_cons] at this; omega

theorem decL_len (n : Int) : (decL n).length ≤ 71 := by
  unfold decL
  split
  · have := natL_len 10 70 (-n).toNat []
    simp at this ⊢; omega
  · have := natL_len 10 70 n.toNat []
    simp at this; omega

theorem spFour_len (x : Int) : (spFour x).length ≤ 287 := by
  unfold spFour
  simp only [joinL, List.length_append, List.length_singleton]
  have := decL_len (IntKind.wrap .i64 (bits2 .and .u32 (shr2 .u32 x (24 : Int)) (255 : Int)))
  have := decL_len (IntKind.wrap .i64 (bits2 .and .u32 (shr2 .u32 x (16 : Int)) (255 : Int)))
  have := decL_len (IntKind.wrap .i64 (bits2 .and .u32 (shr2 .u32 x (8 : Int)) (255 : Int)))
  have := decL_len (IntKind.wrap .i64 (bits2 .and .u32 (shr2 .u32 x (0 : Int)) (255 : Int)))
  omega

theorem inI64_wrap (x : Int) : inI64 (IntKind.wrap .i64 x) = true := by
  unfold inI64 IntKind.wrap
  simp only [Bool.and_eq_true, decide_eq_true_eq, IntKind.bits, IntKind.signed]
  simp
  omega

theorem law41 (x : Int) (hg : true = true) : ∃ n, ∀ K, funA cx Sp0 n ak41 Tryz.f41 [.int .u32 x] [] K = K (.str (spFour x)) [] := by
  refine ⟨6, fun K => ?_⟩
  rw [run41, gd_true (inI64_wrap _), gd_true (inI64_wrap _), gd_true (inI64_wrap _), gd_true (inI64_wrap _), gd_true (by
    rw [Bool.and_eq_true]
    exact ⟨decide_eq_true (by have := spFour_len x; unfold spFour at this; rw [LIM_eq]; omega), decide_eq_true (by rw [LIM_eq]; simp only [List.length_cons, List.length_nil]; omega)⟩)]
  rfl

end Go.Proofs.YtognccpmaljamaaGreatDoor.Sa

/- Contracts, printed by wip/sym.py. -/
namespace Go.Proofs.YtognccpmaljamaaGreatDoor.Sa
open Go

noncomputable def e25 : Ans := fun args h K => match args, h with
  | [.str a], [] => gd (true) (K (.int .i64 (spSpecial a)) [])
  | _, _ => none
theorem ok25 : AnsOK Tryz.prog 25 e25 := ans_of_fun hT hE mixed hO0 Tryz.func25 (by kernel_rfl) fun args h K r hr => by
  unfold e25 at hr
  split at hr
  · obtain ⟨hg, hq⟩ := gd_some hr
    obtain ⟨n, hn⟩ := law25 _ hg
    exact ⟨n, by rw [hn]; exact hq⟩
  · cases hr
noncomputable def e28 : Ans := fun args h K => match args, h with
  | [.str a], [] => gd (true) (K (.int .i64 (spSpecial a)) [])
  | _, _ => none
theorem ok28 : AnsOK Tryz.prog 28 e28 := ans_of_fun hT hE mixed hO0 Tryz.func28 (by kernel_rfl) fun args h K r hr => by
  unfold e28 at hr
  split at hr
  · obtain ⟨hg, hq⟩ := gd_some hr
    obtain ⟨n, hn⟩ := law28 _ hg
    exact ⟨n, by rw [hn]; exact hq⟩
  · cases hr
noncomputable def e47 : Ans := fun args h K => match args, h with
  | [.str s, .int .u8 c], [] => gd (decide (s.length ≤ BIG)) (K (.int .i64 (lastB c s)) [])
  | _, _ => none
theorem ok47 : AnsOK Tryz.prog 47 e47 := ans_of_fun hT hE mixed hO0 Tryz.func47 (by kernel_rfl) fun args h K r hr => by
  unfold e47 at hr
  split at hr
  · obtain ⟨hg, hq⟩ := gd_some hr
    obtain ⟨n, hn⟩ := law47 _ _ hg
    exact ⟨n, by rw [hn]; exact hq⟩
  · cases hr
noncomputable def e48 : Ans := fun args h K => match args, h with
  | [.str s, .str t], [] => gd (decide (s.length ≤ BIG) && decide (t.length ≤ BIG)) (K (.bool (endsW s t)) [])
  | _, _ => none
theorem ok48 : AnsOK Tryz.prog 48 e48 := ans_of_fun hT hE mixed hO0 Tryz.func48 (by kernel_rfl) fun args h K r hr => by
  unfold e48 at hr
  split at hr
  · obtain ⟨hg, hq⟩ := gd_some hr
    obtain ⟨n, hn⟩ := law48 _ _ hg
    exact ⟨n, by rw [hn]; exact hq⟩
  · cases hr
noncomputable def e30 : Ans := fun args h K => match args, h with
  | [.str s, .int .u8 c], [] => gd (decide (s.length ≤ BIG)) (K (.strs true (splitB c s)) [])
  | _, _ => none
theorem ok30 : AnsOK Tryz.prog 30 e30 := ans_of_fun hT hE mixed hO0 Tryz.func30 (by kernel_rfl) fun args h K r hr => by
  unfold e30 at hr
  split at hr
  · obtain ⟨hg, hq⟩ := gd_some hr
    obtain ⟨n, hn⟩ := law30 _ _ hg
    exact ⟨n, by rw [hn]; exact hq⟩
  · cases hr
noncomputable def e12 : Ans := fun args h K => match args, h with
  | [.strs false l], [] => gd (decide (l.length ≤ BIG)) (K (.strs true l) [])
  | _, _ => none
theorem ok12 : AnsOK Tryz.prog 12 e12 := ans_of_fun hT hE mixed hO0 Tryz.func12 (by kernel_rfl) fun args h K r hr => by
  unfold e12 at hr
  split at hr
  · obtain ⟨hg, hq⟩ := gd_some hr
    obtain ⟨n, hn⟩ := law12 _ hg
    exact ⟨n, by rw [hn]; exact hq⟩
  · cases hr
noncomputable def e22 : Ans := fun args h K => match args, h with
  | [.strs false a, .strs false b], [] => gd (decide (a.length ≤ BIG) && decide (b.length ≤ BIG)) (K (.bool (a == b)) [])
  | _, _ => none
theorem ok22 : AnsOK Tryz.prog 22 e22 := ans_of_fun hT hE mixed hO0 Tryz.func22 (by kernel_rfl) fun args h K r hr => by
  unfold e22 at hr
  split at hr
  · obtain ⟨hg, hq⟩ := gd_some hr
    obtain ⟨n, hn⟩ := law22 _ _ hg
    exact ⟨n, by rw [hn]; exact hq⟩
  · cases hr
noncomputable def e11 : Ans := fun args h K => match args, h with
  | [.strs false l], [] => gd (decide (l.length ≤ BIG)) (K (.bool (spfew l)) [])
  | _, _ => none
theorem ok11 : AnsOK Tryz.prog 11 e11 := ans_of_fun hT hE mixed hO0 Tryz.func11 (by kernel_rfl) fun args h K r hr => by
  unfold e11 at hr
  split at hr
  · obtain ⟨hg, hq⟩ := gd_some hr
    obtain ⟨n, hn⟩ := law11 _ hg
    exact ⟨n, by rw [hn]; exact hq⟩
  · cases hr
noncomputable def e6 : Ans := fun args h K => match args, h with
  | [.agg cs_u], [] => (match rdURL cs_u with | some u => gd (true) (K (.bool (spFew u)) []) | none => none)
  | _, _ => none
theorem ok6 : AnsOK Tryz.prog 6 e6 := ans_of_fun hT hE mixed hO0 Tryz.func6 (by kernel_rfl) fun args h K r hr => by
  unfold e6 at hr
  split at hr
  · split at hr
    · rename_i u_u hu_u
      have hu_u := rdURL_eq hu_u
      subst hu_u
      obtain ⟨hg, hq⟩ := gd_some hr
      obtain ⟨n, hn⟩ := law6 _ hg
      exact ⟨n, by rw [hn]; exact hq⟩
    · cases hr
  · cases hr
noncomputable def e31 : Ans := fun args h K => match args, h with
  | [.agg cs_a, .agg cs_b], [] => (match rdHost cs_a with | some a => (match rdHost cs_b with | some b => gd (true) (K (.bool (hostEq a b)) []) | none => none) | none => none)
  | _, _ => none
theorem ok31 : AnsOK Tryz.prog 31 e31 := ans_of_fun hT hE mixed hO0 Tryz.func31 (by kernel_rfl) fun args h K r hr => by
  unfold e31 at hr
  split at hr
  · split at hr
    · rename_i u_a hu_a
      have hu_a := rdHost_eq hu_a
      subst hu_a
      split at hr
      · rename_i u_b hu_b
        have hu_b := rdHost_eq hu_b
        subst hu_b
        obtain ⟨hg, hq⟩ := gd_some hr
        obtain ⟨n, hn⟩ := law31 _ _ hg
        exact ⟨n, by rw [hn]; exact hq⟩
      · cases hr
    · cases hr
  · cases hr
noncomputable def e41 : Ans := fun args h K => match args, h with
  | [.int .u32 x], [] => gd (true) (K (.str (spFour x)) [])
  | _, _ => none
theorem ok41 : AnsOK Tryz.prog 41 e41 := ans_of_fun hT hE mixed hO0 Tryz.func41 (by kernel_rfl) fun args h K r hr => by
  unfold e41 at hr
  split at hr
  · obtain ⟨hg, hq⟩ := gd_some hr
    obtain ⟨n, hn⟩ := law41 _ hg
    exact ⟨n, by rw [hn]; exact hq⟩
  · cases hr
noncomputable def Sp1 : Oracle := ext 41 e41 (ext 31 e31 (ext 6 e6 (ext 11 e11 (ext 22 e22 (ext 12 e12 (ext 30 e30 (ext 48 e48 (ext 47 e47 (ext 28 e28 (ext 25 e25 (Sp0)))))))))))
theorem hO1 : OracleOK Tryz.prog Sp1 := ext_ok ok41 (ext_ok ok31 (ext_ok ok6 (ext_ok ok11 (ext_ok ok22 (ext_ok ok12 (ext_ok ok30 (ext_ok ok48 (ext_ok ok47 (ext_ok ok28 (ext_ok ok25 (hO0)))))))))))

end Go.Proofs.YtognccpmaljamaaGreatDoor.Sa

/- Walks, printed by wip/sym.py. -/
namespace Go.Proofs.YtognccpmaljamaaGreatDoor.Sa
open Go

/-- strings.LastIndexByte -/
noncomputable def ak32 : AC := (.seq (.reg []) (.seq (.reg []) .ret))
theorem run32 (n : Nat) (s : List UInt8) (c : Int) (K : AVal → List (List AVal) → Option Res) : funA cx Sp1 n ak32 Tryz.f32 [.str s, .int .u8 c] [] K =
    gd (decide (s.length ≤ BIG)) (K (.int .i64 (lastB c s)) []) := by kernel_rfl
/-- strings.HasSuffix -/
noncomputable def ak33 : AC := (.seq (.reg []) (.seq (.reg []) .ret))
theorem run33 (n : Nat) (s : List UInt8) (t : List UInt8) (K : AVal → List (List AVal) → Option Res) : funA cx Sp1 n ak33 Tryz.f33 [.str s, .str t] [] K =
    gd (decide (s.length ≤ BIG) && decide (t.length ≤ BIG)) (K (.bool (endsW s t)) []) := by kernel_rfl
/-- site.Origin -/
noncomputable def ak8 : AC := (.seq (.reg [[1]]) (.seq (.reg []) (.seq (.seq (.reg []) (.cond (.seq (.reg []) .ret) .skip)) (.seq (.reg []) (.seq (.seq (.reg []) (.cond (.reg []) .skip)) (.seq (.reg []) .ret))))))
theorem run8 (n : Nat) (u : URLV) (K : AVal → List (List AVal) → Option Res) : funA cx Sp1 n ak8 Tryz.f8 [.agg [.str u.sc, .str u.us, .str u.pw, .bool u.hh, .int .i64 u.h.k, .str u.h.n, .int .u32 u.h.f, .int .u16 u.h.p0, .int .u16 u.h.p1, .int .u16 u.h.p2, .int .u16 u.h.p3, .int .u16 u.h.p4, .int .u16 u.h.p5, .int .u16 u.h.p6, .int .u16 u.h.p7, .int .i64 u.po, .bool u.dk, .str u.tx, .strs false u.pa, .bool u.hq, .str u.qu, .bool u.hf, .str u.fr]] [] K =
    (match (spSpecial u.sc) == (0 : Int) with | true => K (.tup [.agg [.str ([] : List UInt8), .int .i64 (0 : Int), .str ([] : List UInt8), .int .u32 (0 : Int), .int .u16 (0 : Int), .int .u16 (0 : Int), .int .u16 (0 : Int), .int .u16 (0 : Int), .int .u16 (0 : Int), .int .u16 (0 : Int), .int .u16 (0 : Int), .int .u16 (0 : Int), .int .i64 (0 : Int)], .bool false]) [] | false => (match !u.hh with | true => K (.tup [.agg [.str ([] : List UInt8), .int .i64 (0 : Int), .str ([] : List UInt8), .int .u32 (0 : Int), .int .u16 (0 : Int), .int .u16 (0 : Int), .int .u16 (0 : Int), .int .u16 (0 : Int), .int .u16 (0 : Int), .int .u16 (0 : Int), .int .u16 (0 : Int), .int .u16 (0 : Int), .int .i64 (0 : Int)], .bool false]) [] | false => (match u.po == (-1 : Int) with | true => K (.tup [.agg [.str u.sc, .int .i64 u.h.k, .str u.h.n, .int .u32 u.h.f, .int .u16 u.h.p0, .int .u16 u.h.p1, .int .u16 u.h.p2, .int .u16 u.h.p3, .int .u16 u.h.p4, .int .u16 u.h.p5, .int .u16 u.h.p6, .int .u16 u.h.p7, .int .i64 (spSpecial u.sc)], .bool true]) [] | false => K (.tup [.agg [.str u.sc, .int .i64 u.h.k, .str u.h.n, .int .u32 u.h.f, .int .u16 u.h.p0, .int .u16 u.h.p1, .int .u16 u.h.p2, .int .u16 u.h.p3, .int .u16 u.h.p4, .int .u16 u.h.p5, .int .u16 u.h.p6, .int .u16 u.h.p7, .int .i64 u.po], .bool true]) []))) := by kernel_rfl
/-- sprref7.Origin -/
noncomputable def ak13 : AC := (.seq (.reg [[1]]) (.seq (.reg []) (.seq (.seq (.reg []) (.cond (.seq (.reg []) .ret) .skip)) (.seq (.seq (.reg []) (.cond (.reg []) .skip)) (.seq (.reg []) .ret)))))
theorem run13 (n : Nat) (u : URLV) (K : AVal → List (List AVal) → Option Res) : funA cx Sp1 n ak13 Tryz.f13 [.agg [.str u.sc, .str u.us, .str u.pw, .bool u.hh, .int .i64 u.h.k, .str u.h.n, .int .u32 u.h.f, .int .u16 u.h.p0, .int .u16 u.h.p1, .int .u16 u.h.p2, .int .u16 u.h.p3, .int .u16 u.h.p4, .int .u16 u.h.p5, .int .u16 u.h.p6, .int .u16 u.h.p7, .int .i64 u.po, .bool u.dk, .str u.tx, .strs false u.pa, .bool u.hq, .str u.qu, .bool u.hf, .str u.fr]] [] K =
    (match (spSpecial u.sc) == (0 : Int) with | true => K (.tup [.agg [.str ([] : List UInt8), .int .i64 (0 : Int), .str ([] : List UInt8), .int .u32 (0 : Int), .int .u16 (0 : Int), .int .u16 (0 : Int), .int .u16 (0 : Int), .int .u16 (0 : Int), .int .u16 (0 : Int), .int .u16 (0 : Int), .int .u16 (0 : Int), .int .u16 (0 : Int), .int .i64 (0 : Int)], .bool false]) [] | false => (match !u.hh with | true => K (.tup [.agg [.str ([] : List UInt8), .int .i64 (0 : Int), .str ([] : List UInt8), .int .u32 (0 : Int), .int .u16 (0 : Int), .int .u16 (0 : Int), .int .u16 (0 : Int), .int .u16 (0 : Int), .int .u16 (0 : Int), .int .u16 (0 : Int), .int .u16 (0 : Int), .int .u16 (0 : Int), .int .i64 (0 : Int)], .bool false]) [] | false => (match !(u.po == (-1 : Int)) with | true => K (.tup [.agg [.str u.sc, .int .i64 u.h.k, .str u.h.n, .int .u32 u.h.f, .int .u16 u.h.p0, .int .u16 u.h.p1, .int .u16 u.h.p2, .int .u16 u.h.p3, .int .u16 u.h.p4, .int .u16 u.h.p5, .int .u16 u.h.p6, .int .u16 u.h.p7, .int .i64 u.po], .bool true]) [] | false => K (.tup [.agg [.str u.sc, .int .i64 u.h.k, .str u.h.n, .int .u32 u.h.f, .int .u16 u.h.p0, .int .u16 u.h.p1, .int .u16 u.h.p2, .int .u16 u.h.p3, .int .u16 u.h.p4, .int .u16 u.h.p5, .int .u16 u.h.p6, .int .u16 u.h.p7, .int .i64 (spSpecial u.sc)], .bool true]) []))) := by kernel_rfl
/-- sprref.Origin -/
noncomputable def ak16 : AC := (.seq (.reg []) (.seq (.reg []) .ret))
theorem run16 (n : Nat) (a : OrigV) (b : OrigV) (K : AVal → List (List AVal) → Option Res) : funA cx Sp1 n ak16 Tryz.f16 [.agg [.str a.sc, .int .i64 a.h.k, .str a.h.n, .int .u32 a.h.f, .int .u16 a.h.p0, .int .u16 a.h.p1, .int .u16 a.h.p2, .int .u16 a.h.p3, .int .u16 a.h.p4, .int .u16 a.h.p5, .int .u16 a.h.p6, .int .u16 a.h.p7, .int .i64 a.po], .agg [.str b.sc, .int .i64 b.h.k, .str b.h.n, .int .u32 b.h.f, .int .u16 b.h.p0, .int .u16 b.h.p1, .int .u16 b.h.p2, .int .u16 b.h.p3, .int .u16 b.h.p4, .int .u16 b.h.p5, .int .u16 b.h.p6, .int .u16 b.h.p7, .int .i64 b.po]] [] K =
    (match a.sc == b.sc with | true => (match hostEq a.h b.h with | true => K (.bool (a.po == b.po)) [] | false => K (.bool false) []) | false => K (.bool false) []) := by kernel_rfl
/-- ip.zeros -/
noncomputable def ak62 : AC := (.seq (.reg []) (.seq (.reg []) (.seq (.seq (.reg []) (.block (.loopk [4, 5, 6, 9, 10] (.seq (.reg []) (.seq (.cond .skip .exit) (.seq (.block (.seq (.reg []) (.seq (.reg []) (.seq (.seq (.reg []) (.cond (.reg []) .skip)) (.seq (.reg []) (.cond (.reg []) .skip)))))) (.reg []))))))) (.seq (.reg []) .ret))))
noncomputable def la62_0 : AC := match navA [1, 1, 0, 1, 0] (ak62) with | .loopk _ a => a | a => a
noncomputable def lc62_0 : Code := match navC [1, 1, 0, 1, 0] (bodyC Tryz.f62) with | .loop a => a | a => a
noncomputable def L62_0 (n m0 : Nat) (n_9_0 : Int) (n_9_1 : Int) (n_9_2 : Int) (n_9_3 : Int) (n_9_4 : Int) (n_9_5 : Int) (n_9_6 : Int) (n_9_7 : Int) (h0_0 : Int) (h0_1 : Int) (h0_2 : Int) (h0_3 : Int) (h0_4 : Int) (h0_5 : Int) (h0_6 : Int) (h0_7 : Int) (n_10 : Int) (at_4 : Int) (most_5 : Int) (n_6 : Int) (K : AVal → List (List AVal) → Option Res) : Option Res := lpA cx Sp1 n [4, 5, 6, 9, 10] la62_0 lc62_0 m0 (⟨[.undef, .undef, .undef, .undef, .int .i64 at_4, .int .i64 most_5, .int .i64 n_6, .undef, .undef, .agg [.int .u16 n_9_0, .int .u16 n_9_1, .int .u16 n_9_2, .int .u16 n_9_3, .int .u16 n_9_4, .int .u16 n_9_5, .int .u16 n_9_6, .int .u16 n_9_7], .int .i64 n_10, .undef, .undef, .undef, .undef, .undef, .undef, .undef, .undef, .undef, .undef, .undef, .undef, .undef, .undef, .undef, .undef, .undef, .undef], [[.int .u16 h0_0, .int .u16 h0_1, .int .u16 h0_2, .int .u16 h0_3, .int .u16 h0_4, .int .u16 h0_5, .int .u16 h0_6, .int .u16 h0_7]]⟩) (contA cx Sp1 n [1, 1, 0, 1, 0] ak62 (bodyC Tryz.f62) (endK cx Tryz.f62 0 K))
theorem L62_0_step (n m0 : Nat) (n_9_0 : Int) (n_9_1 : Int) (n_9_2 : Int) (n_9_3 : Int) (n_9_4 : Int) (n_9_5 : Int) (n_9_6 : Int) (n_9_7 : Int) (h0_0 : Int) (h0_1 : Int) (h0_2 : Int) (h0_3 : Int) (h0_4 : Int) (h0_5 : Int) (h0_6 : Int) (h0_7 : Int) (n_10 : Int) (at_4 : Int) (most_5 : Int) (n_6 : Int) (K : AVal → List (List AVal) → Option Res) : L62_0 n  (m0 + 1) n_9_0 n_9_1 n_9_2 n_9_3 n_9_4 n_9_5 n_9_6 n_9_7 h0_0 h0_1 h0_2 h0_3 h0_4 h0_5 h0_6 h0_7 n_10 at_4 most_5 n_6 K =
    (match decide (n_10 < (8 : Int)) with | true => gd (decide (0 ≤ n_10 ∧ n_10.toNat < 8)) (match intAt .u16 [.int .u16 n_9_0, .int .u16 n_9_1, .int .u16 n_9_2, .int .u16 n_9_3, .int .u16 n_9_4, .int .u16 n_9_5, .int .u16 n_9_6, .int .u16 n_9_7] n_10.toNat with | some x1 => (match !(x1 == (0 : Int)) with | true => (match decide (most_5 < (0 : Int)) with | true => L62_0 n  m0 n_9_0 n_9_1 n_9_2 n_9_3 n_9_4 n_9_5 n_9_6 n_9_7 h0_0 h0_1 h0_2 h0_3 h0_4 h0_5 h0_6 h0_7 (IntKind.wrap .i64 (n_10 + (1 : Int))) (IntKind.wrap .i64 ((IntKind.wrap .i64 (n_10 + (1 : Int))) - (0 : Int))) (0 : Int) (0 : Int) K | false => L62_0 n  m0 n_9_0 n_9_1 n_9_2 n_9_3 n_9_4 n_9_5 n_9_6 n_9_7 h0_0 h0_1 h0_2 h0_3 h0_4 h0_5 h0_6 h0_7 (IntKind.wrap .i64 (n_10 + (1 : Int))) at_4 most_5 (0 : Int) K) | false => (match decide (most_5 < IntKind.wrap .i64 (n_6 + (1 : Int))) with | true => L62_0 n  m0 n_9_0 n_9_1 n_9_2 n_9_3 n_9_4 n_9_5 n_9_6 n_9_7 h0_0 h0_1 h0_2 h0_3 h0_4 h0_5 h0_6 h0_7 (IntKind.wrap .i64 (n_10 + (1 : Int))) (IntKind.wrap .i64 ((IntKind.wrap .i64 (n_10 + (1 : Int))) - (IntKind.wrap .i64 (n_6 + (1 : Int))))) (IntKind.wrap .i64 (n_6 + (1 : Int))) (IntKind.wrap .i64 (n_6 + (1 : Int))) K | false => L62_0 n  m0 n_9_0 n_9_1 n_9_2 n_9_3 n_9_4 n_9_5 n_9_6 n_9_7 h0_0 h0_1 h0_2 h0_3 h0_4 h0_5 h0_6 h0_7 (IntKind.wrap .i64 (n_10 + (1 : Int))) at_4 most_5 (IntKind.wrap .i64 (n_6 + (1 : Int))) K)) | none => none) | false => K (.tup [.int .i64 at_4, .int .i64 most_5]) []) := by kernel_rfl
theorem run62 (n : Nat) (p0 : Int) (p1 : Int) (p2 : Int) (p3 : Int) (p4 : Int) (p5 : Int) (p6 : Int) (p7 : Int) (K : AVal → List (List AVal) → Option Res) : funA cx Sp1 n ak62 Tryz.f62 [.agg [.int .u16 p0, .int .u16 p1, .int .u16 p2, .int .u16 p3, .int .u16 p4, .int .u16 p5, .int .u16 p6, .int .u16 p7]] [] K =
    L62_0 n  n p0 p1 p2 p3 p4 p5 p6 p7 p0 p1 p2 p3 p4 p5 p6 p7 (0 : Int) (0 : Int) (0 : Int) (0 : Int) K := by kernel_rfl
/-- sprref1.Hex -/
noncomputable def ak129 : AC := (.seq (.reg []) (.seq (.reg []) (.seq (.reg []) (.seq (.seq (.reg []) (.block (.loopk [0, 3, 4, 5] (.seq (.seq (.reg [[], [6]]) (.cond .skip .exit)) (.seq (.block (.dreg [0] (.step (.early 0) (.step (.early 1) (.step (.early 2) (.step (.early 3) (.step (.early 4) (.step (.early 5) (.step (.early 6) (.step (.early 7) (.step (.early 8) (.step (.early 9) (.step (.early 10) (.step (.early 11) (.step (.early 12) (.step (.early 13) (.step (.early 14) (.step (.go 15) (.step (.go 16) (.step (.early 17) .done)))))))))))))))))) [[1], [], [6], [], [], [], [], [], [], [6], [], [], [], [], [], [], [], [1]])) (.reg [])))))) (.seq (.reg [[6]]) .ret)))))
noncomputable def la129_0 : AC := match navA [1, 1, 1, 0, 1, 0] (ak129) with | .loopk _ a => a | a => a
noncomputable def lc129_0 : Code := match navC [1, 1, 1, 0, 1, 0] (bodyC Tryz.f129) with | .loop a => a | a => a
noncomputable def L129_0 (n m0 : Nat) (b_0 : List Int) (out_4 : List Int) (i_5 : Int) (K : AVal → List (List AVal) → Option Res) : Option Res := lpA cx Sp1 n [0, 3, 4, 5] la129_0 lc129_0 m0 (⟨[.ints false .u8 b_0, .undef, .undef, .str ([48, 49, 50, 51, 52, 53, 54, 55, 56, 57, 97, 98, 99, 100, 101, 102] : List UInt8), .ints true .u8 out_4, .int .i64 i_5, .undef, .undef, .undef, .undef, .undef, .undef, .undef, .undef, .undef, .undef, .undef, .undef, .undef, .undef, .undef, .undef, .undef, .undef, .undef, .undef, .undef, .undef, .undef, .undef, .undef], []⟩) (contA cx Sp1 n [1, 1, 1, 0, 1, 0] ak129 (bodyC Tryz.f129) (endK cx Tryz.f129 0 K))
theorem L129_0_step (n m0 : Nat) (b_0 : List Int) (out_4 : List Int) (i_5 : Int) (K : AVal → List (List AVal) → Option Res) : L129_0 n  (m0 + 1) b_0 out_4 i_5 K =
    (match decide (i_5 < (b_0.length : Int)) with | true => (match idx b_0 i_5 with | some x1 => (match idx ([48, 49, 50, 51, 52, 53, 54, 55, 56, 57, 97, 98, 99, 100, 101, 102] : List UInt8) (shr2 .u8 x1 (4 : Int)) with | some c2 => (match idx b_0 i_5 with | some x3 => (match idx ([48, 49, 50, 51, 52, 53, 54, 55, 56, 57, 97, 98, 99, 100, 101, 102] : List UInt8) (bits2 .and .u8 x3 (15 : Int)) with | some c4 => gd (decide (out_4.length + ([ofB c2, ofB c4] : List Int).length ≤ LIM)) (L129_0 n  m0 b_0 (out_4 ++ ([ofB c2, ofB c4] : List Int)) (IntKind.wrap .i64 (i_5 + (1 : Int))) K) | none => none) | none => none) | none => none) | none => none) | false => K (.str (out_4.map toB)) []) := by kernel_rfl
theorem run129 (n : Nat) (b : List Int) (K : AVal → List (List AVal) → Option Res) : funA cx Sp1 n ak129 Tryz.f129 [.ints false .u8 b] [] K =
    L129_0 n  n b ([] : List Int) (0 : Int) K := by kernel_rfl
/-- strconv.isPowerOfTwo -/
noncomputable def ak151 : AC := (.seq (.reg []) (.seq (.reg []) .ret))
theorem run151 (n : Nat) (x : Int) (K : AVal → List (List AVal) → Option Res) : funA cx Sp1 n ak151 Tryz.f151 [.int .i64 x] [] K =
    K (.bool ((bits2 .and .i64 x (IntKind.wrap .i64 (x - (1 : Int)))) == (0 : Int))) [] := by kernel_rfl
/-- bits.TrailingZeros64 -/
noncomputable def ak173 : AC := (.seq (.reg []) (.seq (.seq (.reg []) (.cond (.seq (.reg []) .ret) .skip)) (.seq (.reg []) .ret)))
theorem run173 (n : Nat)  (K : AVal → List (List AVal) → Option Res) : funA cx Sp1 n ak173 Tryz.f173 [.int .u64 (16 : Int)] [] K =
    K (.int .i64 (4 : Int)) [] := by kernel_rfl

end Go.Proofs.YtognccpmaljamaaGreatDoor.Sa

/- Laws of the second layer's functions. -/
namespace Go.Proofs.YtognccpmaljamaaGreatDoor.Sa
open Go

theorem law32 (s : List UInt8) (c : Int) (hg : decide (s.length ≤ BIG) = true) : ∃ n, ∀ K, funA cx Sp1 n ak32 Tryz.f32 [.str s, .int .u8 c] [] K = K (.int .i64 (lastB c s)) [] :=
  ⟨0, fun K => by rw [run32, gd_true hg]⟩

theorem law33 (s t : List UInt8) (hg : (decide (s.length ≤ BIG) && decide (t.length ≤ BIG)) = true) : ∃ n, ∀ K, funA cx Sp1 n ak33 Tryz.f33 [.str s, .str t] [] K = K (.bool (endsW s t)) [] :=
  ⟨0, fun K => by rw [run33, gd_true hg]⟩

theorem law8 (u : URLV) (hg : true = true) : ∃ n, ∀ K, funA cx Sp1 n ak8 Tryz.f8 [.agg (urlC u)] [] K = K (.tup [.agg (origC (spOrig u)), .bool (spOrigOk u)]) [] := by
  refine ⟨0, fun K => ?_⟩
  rw [run8]
  unfold spOrig
  cases h1 : (spSpecial u.sc == 0)
  · cases h2 : u.hh
    · have : spOrigOk u = false := by simp [spOrigOk, h2]
      rw [this]; rfl
    · have : spOrigOk u = true := by simp [spOrigOk, h1, h2]
      rw [this]
      cases u.po == -1 <;> rfl
  · have : spOrigOk u = false := by simp [spOrigOk, h1]
    rw [this]; rfl

theorem law13 (u : URLV) (hg : true = true) : ∃ n, ∀ K, funA cx Sp1 n ak13 Tryz.f13 [.agg (urlC u)] [] K = K (.tup [.agg (origC (spOrig u)), .bool (spOrigOk u)]) [] := by
  refine ⟨0, fun K => ?_⟩
  rw [run13]
  unfold spOrig
  cases h1 : (spSpecial u.sc == 0)
  · cases h2 : u.hh
    · have : spOrigOk u = false := by simp [spOrigOk, h2]
      rw [this]; rfl
    · have : spOrigOk u = true := by simp [spOrigOk, h1, h2]
      rw [this]
      cases u.po == -1 <;> rfl
  · have : spOrigOk u = false := by simp [spOrigOk, h1]
    rw [this]; rfl

theorem law16 (a b : OrigV) (hg : true = true) : ∃ n, ∀ K, funA cx Sp1 n ak16 Tryz.f16 [.agg (origC a), .agg (origC b)] [] K = K (.bool (origEq a b)) [] := by
  refine ⟨0, fun K => ?_⟩
  rw [run16]
  unfold origEq
  cases a.sc == b.sc <;> cases hostEq a.h b.h <;> rfl

/-! ### runs of 0 -/
theorem intAt_map {k : IntKind} {l : List Int} {i : Nat} (h : i < l.length) : intAt k (l.map (.int k)) i = some l[i] := by
  unfold intAt
  rw [List.getElem?_map, List.getElem?_eq_getElem h]
  simp

theorem loop62 (n : Nat) (p0 p1 p2 p3 p4 p5 p6 p7 : Int) (h0 h1 h2 h3 h4 h5 h6 h7 : Int) (K : AVal → List (List AVal) → Option Res) : ∀ (d m i : Nat) (at_ most x : Int), i + d = 8 → d < m → 0 ≤ x → x ≤ i → 0 ≤ most → most ≤ i →
    L62_0 n m p0 p1 p2 p3 p4 p5 p6 p7 h0 h1 h2 h3 h4 h5 h6 h7 (i : Int) at_ most x K = K (.tup [.int .i64 (zerosF (([p0, p1, p2, p3, p4, p5, p6, p7] : List Int).drop i) i at_ most x).1, .int .i64 (zerosF (([p0, p1, p2, p3, p4, p5, p6, p7] : List Int).drop i) i at_ most x).2]) []
  | 0, m, i, at_, most, x, h, hm, hx0, hx1, hm0, hm1 => by
    obtain ⟨m, rfl⟩ : ∃ k, m = k + 1 := ⟨m - 1, by omega⟩
    have : i = 8 := by omega
    subst this
    rw [L62_0_step]
    rfl
  | d + 1, m, i, at_, most, x, h, hm, hx0, hx1, hm0, hm1 => by
    obtain ⟨m, rfl⟩ : ∃ k, m = k + 1 := ⟨m - 1, by omega⟩
    have hi : i < ([p0, p1, p2, p3, p4, p5, p6, p7] : List Int).length := by simp; omega
    rw [L62_0_step]
    have hi8 : (i : Int) < 8 := by omega
    have e : ([.int .u16 p0, .int .u16 p1, .int .u16 p2, .int .u16 p3, .int .u16 p4, .int .u16 p5, .int .u16 p6, .int .u16 p7] : List AVal) = ([p0, p1, p2, p3, p4, p5, p6, p7] : List Int).map (.int .u16) := rfl
    rw [e]
    simp only [hi8, decide_true, Int.toNat_natCast]
    rw [gd_dec ⟨by omega, by omega⟩, intAt_map hi]
    rw [List.drop_eq_getElem_cons hi]
    rw [wrap64_id (x := (i : Int) + 1) (by omega) (by omega), wrap64_id (x := x + 1) (by omega) (by omega), wrap64_id (x := (i : Int) + 1 - (x + 1)) (by omega) (by omega)]
    have ei : ((i : Int) + 1) = ((i + 1 : Nat) : Int) := by omega
    have hm2 : ¬ (most < 0) := by omega
    simp only [zerosF]
    cases hb : (([p0, p1, p2, p3, p4, p5, p6, p7] : List Int)[i] == 0)
    · simp only [Bool.not_false, hm2, decide_false]
      rw [ei]
      exact loop62 n p0 p1 p2 p3 p4 p5 p6 p7 h0 h1 h2 h3 h4 h5 h6 h7 K d m (i + 1) at_ most 0 (by omega) (by omega) (by omega) (by omega) (by omega) (by omega)
    · simp only [Bool.not_true]
      by_cases hc : most < x + 1
      · simp only [hc, decide_true]
        rw [ei]
        exact loop62 n p0 p1 p2 p3 p4 p5 p6 p7 h0 h1 h2 h3 h4 h5 h6 h7 K d m (i + 1) _ _ _ (by omega) (by omega) (by omega) (by omega) (by omega) (by omega)
      · simp only [hc, decide_false]
        rw [ei]
        exact loop62 n p0 p1 p2 p3 p4 p5 p6 p7 h0 h1 h2 h3 h4 h5 h6 h7 K d m (i + 1) _ _ _ (by omega) (by omega) (by omega) (by omega) (by omega) (by omega)

theorem law62 (p0 p1 p2 p3 p4 p5 p6 p7 : Int) (hg : true = true) : ∃ n, ∀ K, funA cx Sp1 n ak62 Tryz.f62 [.agg [.int .u16 p0, .int .u16 p1, .int .u16 p2, .int .u16 p3, .int .u16 p4, .int .u16 p5, .int .u16 p6, .int .u16 p7]] [] K = K (.tup [.int .i64 (zat p0 p1 p2 p3 p4 p5 p6 p7), .int .i64 (zmost p0 p1 p2 p3 p4 p5 p6 p7)]) [] := by
  refine ⟨9, fun K => ?_⟩
  rw [run62]
  exact loop62 9 p0 p1 p2 p3 p4 p5 p6 p7 _ _ _ _ _ _ _ _ K 8 9 0 0 0 0 (by omega) (by omega) (by omega) (by omega) (by omega) (by omega)

/-! ### digits of 16 -/
theorem and15 {k : IntKind} {x : Int} (hk : k = .u8 ∨ k = .u64) (h0 : 0 ≤ x) (h1 : x < 2 ^ k.bits) : bits2 .and k x 15 = x % 16 := by
  obtain ⟨n, rfl⟩ : ∃ n : Nat, x = n := ⟨x.toNat, by omega⟩
  have hn : n < 2 ^ k.bits := by exact_mod_cast h1
  have e : ((BitVec.ofInt k.bits (n : Int)) &&& (BitVec.ofInt k.bits 15)).toNat = n % 16 := by
    rw [BitVec.toNat_and]
    have a1 : (BitVec.ofInt k.bits (n : Int)).toNat = n := by
      rw [BitVec.toNat_ofInt]
      have : ((n : Int) % ((2 ^ k.bits : Nat) : Int)).toNat = n % 2 ^ k.bits := by
        rw [← Int.natCast_emod, Int.toNat_natCast]
      rw [this, Nat.mod_eq_of_lt hn]
    have a2 : (BitVec.ofInt k.bits 15).toNat = 15 := by rcases hk with rfl | rfl <;> rfl
    rw [a1, a2]
    exact Nat.and_two_pow_sub_one_eq_mod n 4
  have hb : bits2 .and k (n : Int) 15 = IntKind.wrap k (((BitVec.ofInt k.bits (n : Int)) &&& (BitVec.ofInt k.bits 15)).toNat : Int) := rfl
  rw [hb, e]
  rcases hk with rfl | rfl
  · unfold IntKind.wrap
    simp [IntKind.bits, IntKind.signed]
    omega
  · unfold IntKind.wrap
    simp [IntKind.bits, IntKind.signed]
    omega

theorem shr4 {k : IntKind} {x : Int} (hk : k = .u8 ∨ k = .u64) : shr2 k x 4 = x / 16 := by
  rcases hk with rfl | rfl
  · show x.fdiv (2 ^ (min (4 : Int).toNat 8)) = _
    rw [Int.fdiv_eq_ediv_of_nonneg _ (by decide)]; rfl
  · show x.fdiv (2 ^ (min (4 : Int).toNat 64)) = _
    rw [Int.fdiv_eq_ediv_of_nonneg _ (by decide)]; rfl

theorem idx16 {x : Int} (h0 : 0 ≤ x) (h1 : x < 16) : idx ([48, 49, 50, 51, 52, 53, 54, 55, 56, 57, 97, 98, 99, 100, 101, 102] : List UInt8) x = some (hd16 x) := by
  have h : x.toNat < ([48, 49, 50, 51, 52, 53, 54, 55, 56, 57, 97, 98, 99, 100, 101, 102] : List UInt8).length := by simp; omega
  rw [idx_at h0 h]
  unfold hd16
  simp [List.getD, List.getElem?_eq_getElem h]

theorem toB_ofB (c : UInt8) : toB (ofB c) = c := by
  unfold toB ofB
  simp

theorem loop129 (n : Nat) (b : List Int) (hb : isBytes b = true) (hs : b.length ≤ BIG) (K : AVal → List (List AVal) → Option Res) : ∀ (d m i : Nat) (out : List Int), i + d = b.length → d < m → out.length ≤ 2 * i →
    L129_0 n m b out (i : Int) K = K (.str (out.map toB ++ spHex (b.drop i))) []
  | 0, m, i, out, h, hm, ho => by
    obtain ⟨m, rfl⟩ : ∃ k, m = k + 1 := ⟨m - 1, by omega⟩
    rw [L129_0_step]
    have : ¬ ((i : Int) < (b.length : Int)) := by omega
    simp only [this, decide_false]
    rw [List.drop_of_length_le (by omega)]
    simp [spHex]
  | d + 1, m, i, out, h, hm, ho => by
    have hs' := hs
    rw [BIG_eq] at hs'
    obtain ⟨m, rfl⟩ : ∃ k, m = k + 1 := ⟨m - 1, by omega⟩
    have hi : i < b.length := by omega
    have h1 : (i : Int) < (b.length : Int) := by omega
    have hbi : 0 ≤ b[i] ∧ b[i] < 256 := by
      unfold isBytes at hb
      rw [List.all_eq_true] at hb
      have := hb b[i] (List.getElem_mem hi)
      simpa using this
    rw [L129_0_step]
    simp only [h1, decide_true]
    rw [idx_at (by omega) (by simpa using hi)]
    simp only [Int.toNat_natCast]
    rw [shr4 (.inl rfl), and15 (.inl rfl) hbi.1 (by simpa [IntKind.bits] using hbi.2)]
    rw [idx16 (by omega) (by omega), idx16 (by omega) (by omega)]
    simp only
    rw [gd_dec (by rw [LIM_eq]; simp only [List.length_cons, List.length_nil]; omega), wrap64_id (by omega) (by omega)]
    have := loop129 n b hb hs K d m (i + 1) (out ++ [ofB (hd16 (b[i] / 16)), ofB (hd16 (b[i] % 16))]) (by omega) (by omega) (by simp; omega)
    refine Eq.trans this ?_
    have e : spHex (b.drop i) = hd16 (b[i] / 16) :: hd16 (b[i] % 16) :: spHex (b.drop (i + 1)) := by
      rw [List.drop_eq_getElem_cons hi]; rfl
    rw [e]
    simp [toB_ofB]

theorem law129 (b : List Int) (hg : (isBytes b && decide (b.length ≤ BIG)) = true) : ∃ n, ∀ K, funA cx Sp1 n ak129 Tryz.f129 [.ints false .u8 b] [] K = K (.str (spHex b)) [] := by
  rw [Bool.and_eq_true] at hg
  refine ⟨b.length + 1, fun K => ?_⟩
  rw [run129]
  have := loop129 (b.length + 1) b hg.1 (of_decide_eq_true hg.2) K b.length (b.length + 1) 0 [] (by omega) (by omega) (by simp)
  refine Eq.trans this ?_
  simp

theorem law151 (x : Int) (hg : true = true) : ∃ n, ∀ K, funA cx Sp1 n ak151 Tryz.f151 [.int .i64 x] [] K = K (.bool (bits2 .and .i64 x (IntKind.wrap .i64 (x - 1)) == 0)) [] := ⟨0, fun K => run151 0 x K⟩

theorem law173 (hg : true = true) : ∃ n, ∀ K, funA cx Sp1 n ak173 Tryz.f173 [.int .u64 16] [] K = K (.int .i64 4) [] := ⟨0, fun K => run173 0 K⟩

end Go.Proofs.YtognccpmaljamaaGreatDoor.Sa

/- Contracts, printed by wip/sym.py. -/
namespace Go.Proofs.YtognccpmaljamaaGreatDoor.Sa
open Go

noncomputable def e32 : Ans := fun args h K => match args, h with
  | [.str s, .int .u8 c], [] => gd (decide (s.length ≤ BIG)) (K (.int .i64 (lastB c s)) [])
  | _, _ => none
theorem ok32 : AnsOK Tryz.prog 32 e32 := ans_of_fun hT hE mixed hO1 Tryz.func32 (by kernel_rfl) fun args h K r hr => by
  unfold e32 at hr
  split at hr
  · obtain ⟨hg, hq⟩ := gd_some hr
    obtain ⟨n, hn⟩ := law32 _ _ hg
    exact ⟨n, by rw [hn]; exact hq⟩
  · cases hr
noncomputable def e33 : Ans := fun args h K => match args, h with
  | [.str s, .str t], [] => gd (decide (s.length ≤ BIG) && decide (t.length ≤ BIG)) (K (.bool (endsW s t)) [])
  | _, _ => none
theorem ok33 : AnsOK Tryz.prog 33 e33 := ans_of_fun hT hE mixed hO1 Tryz.func33 (by kernel_rfl) fun args h K r hr => by
  unfold e33 at hr
  split at hr
  · obtain ⟨hg, hq⟩ := gd_some hr
    obtain ⟨n, hn⟩ := law33 _ _ hg
    exact ⟨n, by rw [hn]; exact hq⟩
  · cases hr
noncomputable def e8 : Ans := fun args h K => match args, h with
  | [.agg cs_u], [] => (match rdURL cs_u with | some u => gd (true) (K (.tup [.agg [.str ((spOrig u).sc), .int .i64 ((spOrig u).h.k), .str ((spOrig u).h.n), .int .u32 ((spOrig u).h.f), .int .u16 ((spOrig u).h.p0), .int .u16 ((spOrig u).h.p1), .int .u16 ((spOrig u).h.p2), .int .u16 ((spOrig u).h.p3), .int .u16 ((spOrig u).h.p4), .int .u16 ((spOrig u).h.p5), .int .u16 ((spOrig u).h.p6), .int .u16 ((spOrig u).h.p7), .int .i64 ((spOrig u).po)], .bool (spOrigOk u)]) []) | none => none)
  | _, _ => none
theorem ok8 : AnsOK Tryz.prog 8 e8 := ans_of_fun hT hE mixed hO1 Tryz.func8 (by kernel_rfl) fun args h K r hr => by
  unfold e8 at hr
  split at hr
  · split at hr
    · rename_i u_u hu_u
      have hu_u := rdURL_eq hu_u
      subst hu_u
      obtain ⟨hg, hq⟩ := gd_some hr
      obtain ⟨n, hn⟩ := law8 _ hg
      exact ⟨n, by rw [hn]; exact hq⟩
    · cases hr
  · cases hr
noncomputable def e13 : Ans := fun args h K => match args, h with
  | [.agg cs_u], [] => (match rdURL cs_u with | some u => gd (true) (K (.tup [.agg [.str ((spOrig u).sc), .int .i64 ((spOrig u).h.k), .str ((spOrig u).h.n), .int .u32 ((spOrig u).h.f), .int .u16 ((spOrig u).h.p0), .int .u16 ((spOrig u).h.p1), .int .u16 ((spOrig u).h.p2), .int .u16 ((spOrig u).h.p3), .int .u16 ((spOrig u).h.p4), .int .u16 ((spOrig u).h.p5), .int .u16 ((spOrig u).h.p6), .int .u16 ((spOrig u).h.p7), .int .i64 ((spOrig u).po)], .bool (spOrigOk u)]) []) | none => none)
  | _, _ => none
theorem ok13 : AnsOK Tryz.prog 13 e13 := ans_of_fun hT hE mixed hO1 Tryz.func13 (by kernel_rfl) fun args h K r hr => by
  unfold e13 at hr
  split at hr
  · split at hr
    · rename_i u_u hu_u
      have hu_u := rdURL_eq hu_u
      subst hu_u
      obtain ⟨hg, hq⟩ := gd_some hr
      obtain ⟨n, hn⟩ := law13 _ hg
      exact ⟨n, by rw [hn]; exact hq⟩
    · cases hr
  · cases hr
noncomputable def e16 : Ans := fun args h K => match args, h with
  | [.agg cs_a, .agg cs_b], [] => (match rdOrig cs_a with | some a => (match rdOrig cs_b with | some b => gd (true) (K (.bool (origEq a b)) []) | none => none) | none => none)
  | _, _ => none
theorem ok16 : AnsOK Tryz.prog 16 e16 := ans_of_fun hT hE mixed hO1 Tryz.func16 (by kernel_rfl) fun args h K r hr => by
  unfold e16 at hr
  split at hr
  · split at hr
    · rename_i u_a hu_a
      have hu_a := rdOrig_eq hu_a
      subst hu_a
      split at hr
      · rename_i u_b hu_b
        have hu_b := rdOrig_eq hu_b
        subst hu_b
        obtain ⟨hg, hq⟩ := gd_some hr
        obtain ⟨n, hn⟩ := law16 _ _ hg
        exact ⟨n, by rw [hn]; exact hq⟩
      · cases hr
    · cases hr
  · cases hr
noncomputable def e62 : Ans := fun args h K => match args, h with
  | [.agg [.int .u16 p0, .int .u16 p1, .int .u16 p2, .int .u16 p3, .int .u16 p4, .int .u16 p5, .int .u16 p6, .int .u16 p7]], [] => gd (true) (K (.tup [.int .i64 (zat p0 p1 p2 p3 p4 p5 p6 p7), .int .i64 (zmost p0 p1 p2 p3 p4 p5 p6 p7)]) [])
  | _, _ => none
theorem ok62 : AnsOK Tryz.prog 62 e62 := ans_of_fun hT hE mixed hO1 Tryz.func62 (by kernel_rfl) fun args h K r hr => by
  unfold e62 at hr
  split at hr
  · obtain ⟨hg, hq⟩ := gd_some hr
    obtain ⟨n, hn⟩ := law62 _ _ _ _ _ _ _ _ hg
    exact ⟨n, by rw [hn]; exact hq⟩
  · cases hr
noncomputable def e129 : Ans := fun args h K => match args, h with
  | [.ints false .u8 b], [] => gd (isBytes b && decide (b.length ≤ BIG)) (K (.str (spHex b)) [])
  | _, _ => none
theorem ok129 : AnsOK Tryz.prog 129 e129 := ans_of_fun hT hE mixed hO1 Tryz.func129 (by kernel_rfl) fun args h K r hr => by
  unfold e129 at hr
  split at hr
  · obtain ⟨hg, hq⟩ := gd_some hr
    obtain ⟨n, hn⟩ := law129 _ hg
    exact ⟨n, by rw [hn]; exact hq⟩
  · cases hr
noncomputable def e151 : Ans := fun args h K => match args, h with
  | [.int .i64 x], [] => gd (true) (K (.bool (bits2 .and .i64 x (IntKind.wrap .i64 (x - 1)) == 0)) [])
  | _, _ => none
theorem ok151 : AnsOK Tryz.prog 151 e151 := ans_of_fun hT hE mixed hO1 Tryz.func151 (by kernel_rfl) fun args h K r hr => by
  unfold e151 at hr
  split at hr
  · obtain ⟨hg, hq⟩ := gd_some hr
    obtain ⟨n, hn⟩ := law151 _ hg
    exact ⟨n, by rw [hn]; exact hq⟩
  · cases hr
noncomputable def e173 : Ans := fun args h K => match args, h with
  | [.int .u64 x], [] => gd ((x == (16 : Int)) && true) (K (.int .i64 (4 : Int)) [])
  | _, _ => none
theorem ok173 : AnsOK Tryz.prog 173 e173 := ans_of_fun hT hE mixed hO1 Tryz.func173 (by kernel_rfl) fun args h K r hr => by
  unfold e173 at hr
  split at hr
  · obtain ⟨hg, hq⟩ := gd_some hr
    simp only [Bool.and_eq_true, beq_iff_eq] at hg
    obtain ⟨hc_x, hg⟩ := hg
    subst hc_x
    obtain ⟨n, hn⟩ := law173  (by simpa using hg)
    exact ⟨n, by rw [hn]; exact hq⟩
  · cases hr
noncomputable def Sp2 : Oracle := ext 173 e173 (ext 151 e151 (ext 129 e129 (ext 62 e62 (ext 16 e16 (ext 13 e13 (ext 8 e8 (ext 33 e33 (ext 32 e32 (Sp1)))))))))
theorem hO2 : OracleOK Tryz.prog Sp2 := ext_ok ok173 (ext_ok ok151 (ext_ok ok129 (ext_ok ok62 (ext_ok ok16 (ext_ok ok13 (ext_ok ok8 (ext_ok ok33 (ext_ok ok32 (hO1)))))))))

end Go.Proofs.YtognccpmaljamaaGreatDoor.Sa
