/- SiteAsks answers true for every input whose arguments hold together at most 1048576 values and letters, and leaves its arguments as they were; the listed package-level tables hold what the program's text lays. -/
import Derived.Test.YtognccpmaljamaaGreatDoorB7
set_option linter.unusedVariables false
set_option linter.unusedSimpArgs false
set_option linter.unusedSectionVars false
set_option linter.unnecessarySimpa false
set_option linter.constructorNameAsVariable false
set_option maxRecDepth 100000
/- Walks, printed by wip/sym.py. -/
namespace Go.Proofs.YtognccpmaljamaaGreatDoor.Sa
open Go

/-- strconv.formatBits -/
noncomputable def ak104 : AC := (.seq (.reg []) (.seq (.seq (.reg []) (.cond (.reg []) .skip)) (.seq (.reg []) (.seq (.reg []) (.seq (.seq (.reg []) (.cond (.reg []) .skip)) (.seq (.seq (.reg []) (.cond (.seq (.reg []) (.seq (.reg []) (.seq (.reg []) (.seq (.block (.loopk [0, 1, 3, 4, 10, 11, 12, 13, 14, 15, 16] (.seq (.seq (.reg []) (.cond .skip .exit)) (.block (.seq (.reg []) (.seq (.reg []) (.reg []))))))) (.seq (.reg []) (.reg [])))))) (.seq (.reg []) (.seq (.block (.loopk [0, 1, 3, 4, 10, 11, 12, 13, 17] (.seq (.seq (.reg []) (.cond .skip .exit)) (.block (.seq (.reg []) (.seq (.reg []) (.seq (.reg []) (.reg [])))))))) (.seq (.reg []) (.reg [])))))) (.seq (.seq (.reg []) (.cond (.seq (.reg []) (.reg [])) .skip)) (.seq (.seq (.reg []) (.cond (.seq (.reg [[1], [], [], [], [1]]) .ret) .skip)) (.seq (.reg []) .ret)))))))))
theorem run104  (x : Int) (K : AVal → List (List AVal) → Option Res) : funA cx Sp3 4 ak104 Tryz.f104 [.ints true .u8 ([] : List Int), .int .u64 x, .int .i64 (16 : Int), .bool false, .bool false] [] K =
    (match decide ((16 : Int) ≤ x) with | true => (match idx ([48, 49, 50, 51, 52, 53, 54, 55, 56, 57, 97, 98, 99, 100, 101, 102, 103, 104, 105, 106, 107, 108, 109, 110, 111, 112, 113, 114, 115, 116, 117, 118, 119, 120, 121, 122] : List UInt8) (bits2 .and .u64 x (15 : Int)) with | some c1 => (match decide ((16 : Int) ≤ shr2 .u64 x (4 : Int)) with | true => (match idx ([48, 49, 50, 51, 52, 53, 54, 55, 56, 57, 97, 98, 99, 100, 101, 102, 103, 104, 105, 106, 107, 108, 109, 110, 111, 112, 113, 114, 115, 116, 117, 118, 119, 120, 121, 122] : List UInt8) (bits2 .and .u64 (shr2 .u64 x (4 : Int)) (15 : Int)) with | some c2 => (match decide ((16 : Int) ≤ shr2 .u64 (shr2 .u64 x (4 : Int)) (4 : Int)) with | true => (match idx ([48, 49, 50, 51, 52, 53, 54, 55, 56, 57, 97, 98, 99, 100, 101, 102, 103, 104, 105, 106, 107, 108, 109, 110, 111, 112, 113, 114, 115, 116, 117, 118, 119, 120, 121, 122] : List UInt8) (bits2 .and .u64 (shr2 .u64 (shr2 .u64 x (4 : Int)) (4 : Int)) (15 : Int)) with | some c3 => (match decide ((16 : Int) ≤ shr2 .u64 (shr2 .u64 (shr2 .u64 x (4 : Int)) (4 : Int)) (4 : Int)) with | true => (match idx ([48, 49, 50, 51, 52, 53, 54, 55, 56, 57, 97, 98, 99, 100, 101, 102, 103, 104, 105, 106, 107, 108, 109, 110, 111, 112, 113, 114, 115, 116, 117, 118, 119, 120, 121, 122] : List UInt8) (bits2 .and .u64 (shr2 .u64 (shr2 .u64 (shr2 .u64 x (4 : Int)) (4 : Int)) (4 : Int)) (15 : Int)) with | some c4 => none | none => none) | false => (match idx ([48, 49, 50, 51, 52, 53, 54, 55, 56, 57, 97, 98, 99, 100, 101, 102, 103, 104, 105, 106, 107, 108, 109, 110, 111, 112, 113, 114, 115, 116, 117, 118, 119, 120, 121, 122] : List UInt8) (shr2 .u64 (shr2 .u64 (shr2 .u64 x (4 : Int)) (4 : Int)) (4 : Int)) with | some c5 => K (.tup [.ints true .u8 ([] : List Int), .str (([ofB c5, ofB c3, ofB c2, ofB c1] : List Int).map toB)]) [] | none => none)) | none => none) | false => (match idx ([48, 49, 50, 51, 52, 53, 54, 55, 56, 57, 97, 98, 99, 100, 101, 102, 103, 104, 105, 106, 107, 108, 109, 110, 111, 112, 113, 114, 115, 116, 117, 118, 119, 120, 121, 122] : List UInt8) (shr2 .u64 (shr2 .u64 x (4 : Int)) (4 : Int)) with | some c6 => K (.tup [.ints true .u8 ([] : List Int), .str (([ofB c6, ofB c2, ofB c1] : List Int).map toB)]) [] | none => none)) | none => none) | false => (match idx ([48, 49, 50, 51, 52, 53, 54, 55, 56, 57, 97, 98, 99, 100, 101, 102, 103, 104, 105, 106, 107, 108, 109, 110, 111, 112, 113, 114, 115, 116, 117, 118, 119, 120, 121, 122] : List UInt8) (shr2 .u64 x (4 : Int)) with | some c7 => K (.tup [.ints true .u8 ([] : List Int), .str (([ofB c7, ofB c1] : List Int).map toB)]) [] | none => none)) | none => none) | false => (match idx ([48, 49, 50, 51, 52, 53, 54, 55, 56, 57, 97, 98, 99, 100, 101, 102, 103, 104, 105, 106, 107, 108, 109, 110, 111, 112, 113, 114, 115, 116, 117, 118, 119, 120, 121, 122] : List UInt8) x with | some c8 => K (.tup [.ints true .u8 ([] : List Int), .str (([ofB c8] : List Int).map toB)]) [] | none => none)) := by kernel_rfl
/-- site.registered -/
noncomputable def ak29 : AC := (.seq (.reg []) (.seq (.reg [[], [1], [0, 2]]) (.seq (.seq (.reg []) (.cond (.seq (.reg []) .ret) .skip)) (.seq (.reg []) (.seq (.reg []) .ret)))))
theorem run29 (n : Nat) (m : List UInt8) (l : List (List UInt8)) (K : AVal → List (List AVal) → Option Res) : funA cx Sp3 n ak29 Tryz.f29 [.str m, .strs false l] [] K =
    gd (decide (m.length ≤ BIG) && (decide (l.length ≤ BIG) && shorts l)) ((match ((suffP m l).length : Int) == (m.length : Int) with | true => K (.str m) [] | false => gd (decide (0 ≤ (0 : Int) ∧ (0 : Int) ≤ IntKind.wrap .i64 ((IntKind.wrap .i64 ((m.length : Int) - ((suffP m l).length : Int))) - (1 : Int)) ∧ IntKind.wrap .i64 ((IntKind.wrap .i64 ((m.length : Int) - ((suffP m l).length : Int))) - (1 : Int)) ≤ (m.length : Int))) (gd (decide ((cut m 0 ((IntKind.wrap .i64 ((IntKind.wrap .i64 ((m.length : Int) - ((suffP m l).length : Int))) - (1 : Int))).toNat)).length ≤ BIG)) (gd (decide (0 ≤ IntKind.wrap .i64 ((lastB (46 : Int) (cut m 0 ((IntKind.wrap .i64 ((IntKind.wrap .i64 ((m.length : Int) - ((suffP m l).length : Int))) - (1 : Int))).toNat))) + (1 : Int)) ∧ IntKind.wrap .i64 ((lastB (46 : Int) (cut m 0 ((IntKind.wrap .i64 ((IntKind.wrap .i64 ((m.length : Int) - ((suffP m l).length : Int))) - (1 : Int))).toNat))) + (1 : Int)) ≤ (m.length : Int) ∧ (m.length : Int) ≤ (m.length : Int))) (K (.str (cut m ((IntKind.wrap .i64 ((lastB (46 : Int) (cut m 0 ((IntKind.wrap .i64 ((IntKind.wrap .i64 ((m.length : Int) - ((suffP m l).length : Int))) - (1 : Int))).toNat))) + (1 : Int))).toNat) m.length)) []))))) := by kernel_rfl
/-- sprref7.Site -/
noncomputable def ak15 : AC := (.seq (.reg [[1]]) (.seq (.reg [[2], [2]]) (.seq (.seq (.reg []) (.cond (.seq (.reg []) .ret) .skip)) (.seq (.reg []) (.seq (.seq (.reg []) (.cond (.seq (.reg []) .ret) .skip)) (.seq (.reg [[], [], [], [1], [0, 2]]) (.seq (.reg []) (.seq (.seq (.reg []) (.cond (.seq (.reg []) .ret) .skip)) (.seq (.reg [[], [], [], [], [], [], [1]]) (.seq (.reg [[6], [6]]) (.seq (.reg []) .ret)))))))))))
theorem run15 (n : Nat) (u : URLV) (l : List (List UInt8)) (K : AVal → List (List AVal) → Option Res) : funA cx Sp3 n ak15 Tryz.f15 [.agg [.str u.sc, .str u.us, .str u.pw, .bool u.hh, .int .i64 u.h.k, .str u.h.n, .int .u32 u.h.f, .int .u16 u.h.p0, .int .u16 u.h.p1, .int .u16 u.h.p2, .int .u16 u.h.p3, .int .u16 u.h.p4, .int .u16 u.h.p5, .int .u16 u.h.p6, .int .u16 u.h.p7, .int .i64 u.po, .bool u.dk, .str u.tx, .strs false u.pa, .bool u.hq, .str u.qu, .bool u.hf, .str u.fr], .strs false l] [] K =
    (match !(spOrigOk u) with | true => K (.tup [.agg [.str ((spOrig u).sc), .int .i64 ((spOrig u).h.k), .str ((spOrig u).h.n), .int .u32 ((spOrig u).h.f), .int .u16 ((spOrig u).h.p0), .int .u16 ((spOrig u).h.p1), .int .u16 ((spOrig u).h.p2), .int .u16 ((spOrig u).h.p3), .int .u16 ((spOrig u).h.p4), .int .u16 ((spOrig u).h.p5), .int .u16 ((spOrig u).h.p6), .int .u16 ((spOrig u).h.p7), .int .i64 ((spOrig u).po)], .bool false]) [] | false => (match !(((spOrig u).h.k) == (1 : Int)) with | true => K (.tup [.agg [.str ((spOrig u).sc), .int .i64 ((spOrig u).h.k), .str ((spOrig u).h.n), .int .u32 ((spOrig u).h.f), .int .u16 ((spOrig u).h.p0), .int .u16 ((spOrig u).h.p1), .int .u16 ((spOrig u).h.p2), .int .u16 ((spOrig u).h.p3), .int .u16 ((spOrig u).h.p4), .int .u16 ((spOrig u).h.p5), .int .u16 ((spOrig u).h.p6), .int .u16 ((spOrig u).h.p7), .int .i64 (0 : Int)], .bool true]) [] | false => gd (decide (((spOrig u).h.n).length ≤ BIG) && (decide (l.length ≤ BIG) && shorts l)) ((match decide (IntKind.wrap .i64 ((IntKind.wrap .i64 ((((spOrig u).h.n).length : Int) - ((suffP ((spOrig u).h.n) l).length : Int))) - (1 : Int)) < (0 : Int)) with | true => K (.tup [.agg [.str ((spOrig u).sc), .int .i64 ((spOrig u).h.k), .str ((spOrig u).h.n), .int .u32 ((spOrig u).h.f), .int .u16 ((spOrig u).h.p0), .int .u16 ((spOrig u).h.p1), .int .u16 ((spOrig u).h.p2), .int .u16 ((spOrig u).h.p3), .int .u16 ((spOrig u).h.p4), .int .u16 ((spOrig u).h.p5), .int .u16 ((spOrig u).h.p6), .int .u16 ((spOrig u).h.p7), .int .i64 (0 : Int)], .bool true]) [] | false => gd (decide (0 ≤ (0 : Int) ∧ (0 : Int) ≤ IntKind.wrap .i64 ((IntKind.wrap .i64 ((((spOrig u).h.n).length : Int) - ((suffP ((spOrig u).h.n) l).length : Int))) - (1 : Int)) ∧ IntKind.wrap .i64 ((IntKind.wrap .i64 ((((spOrig u).h.n).length : Int) - ((suffP ((spOrig u).h.n) l).length : Int))) - (1 : Int)) ≤ (((spOrig u).h.n).length : Int))) (gd (decide ((cut ((spOrig u).h.n) 0 ((IntKind.wrap .i64 ((IntKind.wrap .i64 ((((spOrig u).h.n).length : Int) - ((suffP ((spOrig u).h.n) l).length : Int))) - (1 : Int))).toNat)).length ≤ BIG)) (gd (decide (0 ≤ IntKind.wrap .i64 (((splitB (46 : Int) (cut ((spOrig u).h.n) 0 ((IntKind.wrap .i64 ((IntKind.wrap .i64 ((((spOrig u).h.n).length : Int) - ((suffP ((spOrig u).h.n) l).length : Int))) - (1 : Int))).toNat))).length : Int) - (1 : Int)) ∧ (IntKind.wrap .i64 (((splitB (46 : Int) (cut ((spOrig u).h.n) 0 ((IntKind.wrap .i64 ((IntKind.wrap .i64 ((((spOrig u).h.n).length : Int) - ((suffP ((spOrig u).h.n) l).length : Int))) - (1 : Int))).toNat))).length : Int) - (1 : Int))).toNat < (splitB (46 : Int) (cut ((spOrig u).h.n) 0 ((IntKind.wrap .i64 ((IntKind.wrap .i64 ((((spOrig u).h.n).length : Int) - ((suffP ((spOrig u).h.n) l).length : Int))) - (1 : Int))).toNat))).length)) ((match (splitB (46 : Int) (cut ((spOrig u).h.n) 0 ((IntKind.wrap .i64 ((IntKind.wrap .i64 ((((spOrig u).h.n).length : Int) - ((suffP ((spOrig u).h.n) l).length : Int))) - (1 : Int))).toNat)))[(IntKind.wrap .i64 (((splitB (46 : Int) (cut ((spOrig u).h.n) 0 ((IntKind.wrap .i64 ((IntKind.wrap .i64 ((((spOrig u).h.n).length : Int) - ((suffP ((spOrig u).h.n) l).length : Int))) - (1 : Int))).toNat))).length : Int) - (1 : Int))).toNat]? with | some s1 => gd (decide (s1.length + ([46] : List UInt8).length ≤ LIM)) (gd (decide ((s1 ++ ([46] : List UInt8)).length + (suffP ((spOrig u).h.n) l).length ≤ LIM)) (K (.tup [.agg [.str ((spOrig u).sc), .int .i64 ((spOrig u).h.k), .str ((s1 ++ ([46] : List UInt8)) ++ (suffP ((spOrig u).h.n) l)), .int .u32 ((spOrig u).h.f), .int .u16 ((spOrig u).h.p0), .int .u16 ((spOrig u).h.p1), .int .u16 ((spOrig u).h.p2), .int .u16 ((spOrig u).h.p3), .int .u16 ((spOrig u).h.p4), .int .u16 ((spOrig u).h.p5), .int .u16 ((spOrig u).h.p6), .int .u16 ((spOrig u).h.p7), .int .i64 (0 : Int)], .bool true]) [])) | none => none)))))))) := by kernel_rfl
/-- sprref7.Print6 -/
noncomputable def ak50 : AC := (.seq (.reg []) (.seq (.reg []) (.seq (.seq (.reg []) (.block (.loopk [1, 3, 4, 5] (.seq (.seq (.reg []) (.cond .skip .exit)) (.seq (.block (.seq (.reg []) (.seq (.block (.loopk [1, 3, 4, 5, 6] (.seq (.seq (.reg []) (.cond .skip .exit)) (.block (.reg []))))) (.seq (.reg []) (.cond (.reg []) .skip))))) (.reg [])))))) (.seq (.reg []) (.seq (.seq (.reg []) (.block (.loopk [1, 3, 4, 7, 8] (.seq (.seq (.reg []) (.cond .skip .exit)) (.seq (.block (.seq (.seq (.reg []) (.cond (.seq (.reg []) (.seq (.reg []) .exit)) .skip)) (.seq (.seq (.reg []) (.cond (.reg []) .skip)) (.reg [])))) (.reg [])))))) (.seq (.reg []) .ret))))))
noncomputable def la50_0 : AC := match navA [1, 1, 0, 1, 0] (ak50) with | .loopk _ a => a | a => a
noncomputable def lc50_0 : Code := match navC [1, 1, 0, 1, 0] (bodyC Tryz.f50) with | .loop a => a | a => a
noncomputable def L50_0 (n m0 : Nat) (h0_0 : Int) (h0_1 : Int) (h0_2 : Int) (h0_3 : Int) (h0_4 : Int) (h0_5 : Int) (h0_6 : Int) (h0_7 : Int) (at_3 : Int) (best_4 : Int) (i_5 : Int) (K : AVal → List (List AVal) → Option Res) : Option Res := lpA cx Sp3 n [1, 3, 4, 5] la50_0 lc50_0 m0 (⟨[.undef, .ptr 0 0, .undef, .int .i64 at_3, .int .i64 best_4, .int .i64 i_5, .undef, .undef, .undef, .undef, .undef, .undef, .undef, .undef, .undef, .undef, .undef, .undef, .undef, .undef, .undef, .undef, .undef, .undef, .undef, .undef, .undef, .undef, .undef, .undef, .undef, .undef, .undef, .undef, .undef, .undef, .undef, .undef, .undef, .undef, .undef, .undef, .undef, .undef, .undef, .undef, .undef, .undef, .undef, .undef, .undef, .undef, .undef, .undef, .undef, .undef, .undef, .undef, .undef, .undef, .undef, .undef, .undef], [[.int .u16 h0_0, .int .u16 h0_1, .int .u16 h0_2, .int .u16 h0_3, .int .u16 h0_4, .int .u16 h0_5, .int .u16 h0_6, .int .u16 h0_7]]⟩) (contA cx Sp3 n [1, 1, 0, 1, 0] ak50 (bodyC Tryz.f50) (endK cx Tryz.f50 0 K))
noncomputable def la50_1 : AC := match navA [1, 0, 0, 1, 0, 0] (la50_0) with | .loopk _ a => a | a => a
noncomputable def lc50_1 : Code := match navC [1, 0, 0, 1, 0, 0] (lc50_0) with | .loop a => a | a => a
noncomputable def L50_1 (n m0 m1 : Nat) (h0_0 : Int) (h0_1 : Int) (h0_2 : Int) (h0_3 : Int) (h0_4 : Int) (h0_5 : Int) (h0_6 : Int) (h0_7 : Int) (n_6 : Int) (at_3 : Int) (best_4 : Int) (i_5 : Int) (K : AVal → List (List AVal) → Option Res) : Option Res := lpA cx Sp3 n [1, 3, 4, 5, 6] la50_1 lc50_1 m1 (⟨[.undef, .ptr 0 0, .undef, .int .i64 at_3, .int .i64 best_4, .int .i64 i_5, .int .i64 n_6, .undef, .undef, .undef, .undef, .undef, .undef, .undef, .undef, .undef, .undef, .undef, .undef, .undef, .undef, .undef, .undef, .undef, .undef, .undef, .undef, .undef, .undef, .undef, .undef, .undef, .undef, .undef, .undef, .undef, .undef, .undef, .undef, .undef, .undef, .undef, .undef, .undef, .undef, .undef, .undef, .undef, .undef, .undef, .undef, .undef, .undef, .undef, .undef, .undef, .undef, .undef, .undef, .undef, .undef, .undef, .undef], [[.int .u16 h0_0, .int .u16 h0_1, .int .u16 h0_2, .int .u16 h0_3, .int .u16 h0_4, .int .u16 h0_5, .int .u16 h0_6, .int .u16 h0_7]]⟩) (contA cx Sp3 n [1, 0, 0, 1, 0, 0] la50_0 lc50_0 (kontL cx Sp3 n [1, 3, 4, 5] la50_0 lc50_0 m0 (contA cx Sp3 n [1, 1, 0, 1, 0] ak50 (bodyC Tryz.f50) (endK cx Tryz.f50 0 K))))
noncomputable def la50_2 : AC := match navA [1, 1, 1, 1, 0, 1, 0] (ak50) with | .loopk _ a => a | a => a
noncomputable def lc50_2 : Code := match navC [1, 1, 1, 1, 0, 1, 0] (bodyC Tryz.f50) with | .loop a => a | a => a
noncomputable def L50_2 (n m2 : Nat) (at_3 : Int) (best_4 : Int) (h0_0 : Int) (h0_1 : Int) (h0_2 : Int) (h0_3 : Int) (h0_4 : Int) (h0_5 : Int) (h0_6 : Int) (h0_7 : Int) (s_7 : List UInt8) (i_8 : Int) (K : AVal → List (List AVal) → Option Res) : Option Res := lpA cx Sp3 n [1, 3, 4, 7, 8] la50_2 lc50_2 m2 (⟨[.undef, .ptr 0 0, .undef, .int .i64 at_3, .int .i64 best_4, .undef, .undef, .str s_7, .int .i64 i_8, .undef, .undef, .undef, .undef, .undef, .undef, .undef, .undef, .undef, .undef, .undef, .undef, .undef, .undef, .undef, .undef, .undef, .undef, .undef, .undef, .undef, .undef, .undef, .undef, .undef, .undef, .undef, .undef, .undef, .undef, .undef, .undef, .undef, .undef, .undef, .undef, .undef, .undef, .undef, .undef, .undef, .undef, .undef, .undef, .undef, .undef, .undef, .undef, .undef, .undef, .undef, .undef, .undef, .undef], [[.int .u16 h0_0, .int .u16 h0_1, .int .u16 h0_2, .int .u16 h0_3, .int .u16 h0_4, .int .u16 h0_5, .int .u16 h0_6, .int .u16 h0_7]]⟩) (contA cx Sp3 n [1, 1, 1, 1, 0, 1, 0] ak50 (bodyC Tryz.f50) (endK cx Tryz.f50 0 K))
theorem L50_0_step (n m0 : Nat) (h0_0 : Int) (h0_1 : Int) (h0_2 : Int) (h0_3 : Int) (h0_4 : Int) (h0_5 : Int) (h0_6 : Int) (h0_7 : Int) (at_3 : Int) (best_4 : Int) (i_5 : Int) (K : AVal → List (List AVal) → Option Res) : L50_0 n  (m0 + 1) h0_0 h0_1 h0_2 h0_3 h0_4 h0_5 h0_6 h0_7 at_3 best_4 i_5 K =
    (match decide (i_5 < (8 : Int)) with | true => L50_1 n m0 n h0_0 h0_1 h0_2 h0_3 h0_4 h0_5 h0_6 h0_7 (0 : Int) at_3 best_4 i_5 K | false => L50_2 n  n at_3 best_4 h0_0 h0_1 h0_2 h0_3 h0_4 h0_5 h0_6 h0_7 ([] : List UInt8) (0 : Int) K) := by kernel_rfl
theorem L50_1_step (n m0 m1 : Nat) (h0_0 : Int) (h0_1 : Int) (h0_2 : Int) (h0_3 : Int) (h0_4 : Int) (h0_5 : Int) (h0_6 : Int) (h0_7 : Int) (n_6 : Int) (at_3 : Int) (best_4 : Int) (i_5 : Int) (K : AVal → List (List AVal) → Option Res) : L50_1 n m0 (m1 + 1) h0_0 h0_1 h0_2 h0_3 h0_4 h0_5 h0_6 h0_7 n_6 at_3 best_4 i_5 K =
    (match decide (IntKind.wrap .i64 (i_5 + n_6) < (8 : Int)) with | true => gd (decide (0 ≤ IntKind.wrap .i64 (i_5 + n_6) ∧ (IntKind.wrap .i64 (i_5 + n_6)).toNat < 8)) ((match intAt .u16 [.int .u16 h0_0, .int .u16 h0_1, .int .u16 h0_2, .int .u16 h0_3, .int .u16 h0_4, .int .u16 h0_5, .int .u16 h0_6, .int .u16 h0_7] (0 + (IntKind.wrap .i64 (i_5 + n_6)).toNat * 1) with | some x1 => (match x1 == (0 : Int) with | true => L50_1 n m0 m1 h0_0 h0_1 h0_2 h0_3 h0_4 h0_5 h0_6 h0_7 (IntKind.wrap .i64 (n_6 + (1 : Int))) at_3 best_4 i_5 K | false => (match decide (best_4 < n_6) with | true => L50_0 n  m0 h0_0 h0_1 h0_2 h0_3 h0_4 h0_5 h0_6 h0_7 i_5 n_6 (IntKind.wrap .i64 (i_5 + (1 : Int))) K | false => L50_0 n  m0 h0_0 h0_1 h0_2 h0_3 h0_4 h0_5 h0_6 h0_7 at_3 best_4 (IntKind.wrap .i64 (i_5 + (1 : Int))) K)) | none => none)) | false => (match decide (best_4 < n_6) with | true => L50_0 n  m0 h0_0 h0_1 h0_2 h0_3 h0_4 h0_5 h0_6 h0_7 i_5 n_6 (IntKind.wrap .i64 (i_5 + (1 : Int))) K | false => L50_0 n  m0 h0_0 h0_1 h0_2 h0_3 h0_4 h0_5 h0_6 h0_7 at_3 best_4 (IntKind.wrap .i64 (i_5 + (1 : Int))) K)) := by kernel_rfl
theorem L50_2_step (n m2 : Nat) (at_3 : Int) (best_4 : Int) (h0_0 : Int) (h0_1 : Int) (h0_2 : Int) (h0_3 : Int) (h0_4 : Int) (h0_5 : Int) (h0_6 : Int) (h0_7 : Int) (s_7 : List UInt8) (i_8 : Int) (K : AVal → List (List AVal) → Option Res) : L50_2 n  (m2 + 1) at_3 best_4 h0_0 h0_1 h0_2 h0_3 h0_4 h0_5 h0_6 h0_7 s_7 i_8 K =
    (match decide (i_8 < (8 : Int)) with | true => (match i_8 == at_3 with | true => gd (decide (s_7.length + ([58, 58] : List UInt8).length ≤ LIM)) (L50_2 n  m2 at_3 best_4 h0_0 h0_1 h0_2 h0_3 h0_4 h0_5 h0_6 h0_7 (s_7 ++ ([58, 58] : List UInt8)) (IntKind.wrap .i64 ((IntKind.wrap .i64 (i_8 + (IntKind.wrap .i64 (best_4 - (1 : Int))))) + (1 : Int))) K) | false => (match decide ((0 : Int) < i_8) with | true => (match !(i_8 == (IntKind.wrap .i64 (at_3 + best_4))) with | true => gd (decide (s_7.length + ([58] : List UInt8).length ≤ LIM)) (gd (decide (0 ≤ i_8 ∧ i_8.toNat < 8)) ((match intAt .u16 [.int .u16 h0_0, .int .u16 h0_1, .int .u16 h0_2, .int .u16 h0_3, .int .u16 h0_4, .int .u16 h0_5, .int .u16 h0_6, .int .u16 h0_7] (0 + i_8.toNat * 1) with | some x1 => gd (isU16 x1) (gd (decide ((s_7 ++ ([58] : List UInt8)).length + (hex16 x1).length ≤ LIM)) (L50_2 n  m2 at_3 best_4 h0_0 h0_1 h0_2 h0_3 h0_4 h0_5 h0_6 h0_7 ((s_7 ++ ([58] : List UInt8)) ++ (hex16 x1)) (IntKind.wrap .i64 (i_8 + (1 : Int))) K)) | none => none))) | false => gd (decide (0 ≤ i_8 ∧ i_8.toNat < 8)) ((match intAt .u16 [.int .u16 h0_0, .int .u16 h0_1, .int .u16 h0_2, .int .u16 h0_3, .int .u16 h0_4, .int .u16 h0_5, .int .u16 h0_6, .int .u16 h0_7] (0 + i_8.toNat * 1) with | some x2 => gd (isU16 x2) (gd (decide (s_7.length + (hex16 x2).length ≤ LIM)) (L50_2 n  m2 at_3 best_4 h0_0 h0_1 h0_2 h0_3 h0_4 h0_5 h0_6 h0_7 (s_7 ++ (hex16 x2)) (IntKind.wrap .i64 (i_8 + (1 : Int))) K)) | none => none))) | false => gd (decide (0 ≤ i_8 ∧ i_8.toNat < 8)) ((match intAt .u16 [.int .u16 h0_0, .int .u16 h0_1, .int .u16 h0_2, .int .u16 h0_3, .int .u16 h0_4, .int .u16 h0_5, .int .u16 h0_6, .int .u16 h0_7] (0 + i_8.toNat * 1) with | some x3 => gd (isU16 x3) (gd (decide (s_7.length + (hex16 x3).length ≤ LIM)) (L50_2 n  m2 at_3 best_4 h0_0 h0_1 h0_2 h0_3 h0_4 h0_5 h0_6 h0_7 (s_7 ++ (hex16 x3)) (IntKind.wrap .i64 (i_8 + (1 : Int))) K)) | none => none)))) | false => K (.str s_7) []) := by kernel_rfl
theorem run50 (n : Nat) (p0 : Int) (p1 : Int) (p2 : Int) (p3 : Int) (p4 : Int) (p5 : Int) (p6 : Int) (p7 : Int) (K : AVal → List (List AVal) → Option Res) : funA cx Sp3 n ak50 Tryz.f50 [.agg [.int .u16 p0, .int .u16 p1, .int .u16 p2, .int .u16 p3, .int .u16 p4, .int .u16 p5, .int .u16 p6, .int .u16 p7]] [] K =
    L50_0 n  n p0 p1 p2 p3 p4 p5 p6 p7 (8 : Int) (1 : Int) (0 : Int) K := by kernel_rfl

end Go.Proofs.YtognccpmaljamaaGreatDoor.Sa

/- Laws of the fourth layer's functions. -/
namespace Go.Proofs.YtognccpmaljamaaGreatDoor.Sa
open Go

theorem shr64 (x : Int) : shr2 .u64 x 4 = x / 16 := shr4 (.inr rfl)

theorem idx36 {x : Int} (h0 : 0 ≤ x) (h1 : x < 16) : idx ([48, 49, 50, 51, 52, 53, 54, 55, 56, 57, 97, 98, 99, 100, 101, 102, 103, 104, 105, 106, 107, 108, 109, 110, 111, 112, 113, 114, 115, 116, 117, 118, 119, 120, 121, 122] : List UInt8) x = some (hd16 x) := by
  obtain ⟨n, rfl⟩ : ∃ n : Nat, x = n := ⟨x.toNat, by omega⟩
  have hn : n < 16 := by omega
  have : ∀ n : Fin 16, idx ([48, 49, 50, 51, 52, 53, 54, 55, 56, 57, 97, 98, 99, 100, 101, 102, 103, 104, 105, 106, 107, 108, 109, 110, 111, 112, 113, 114, 115, 116, 117, 118, 119, 120, 121, 122] : List UInt8) ((n : Nat) : Int) = some (hd16 ((n : Nat) : Int)) := by decide
  exact this ⟨n, hn⟩

theorem law104 (x : Int) (hg : isU16 x = true) : ∃ n, ∀ K, funA cx Sp3 n ak104 Tryz.f104 [.ints true .u8 ([] : List Int), .int .u64 x, .int .i64 16, .bool false, .bool false] [] K = K (.tup [.ints true .u8 ([] : List Int), .str (hex16 x)]) [] := by
  unfold isU16 at hg
  rw [Bool.and_eq_true] at hg
  have h0 := of_decide_eq_true hg.1
  have h1 := of_decide_eq_true hg.2
  refine ⟨4, fun K => ?_⟩
  rw [run104]
  simp only [shr64]
  rw [and15 (.inr rfl) h0 (by simp [IntKind.bits]; omega), and15 (x := x / 16) (.inr rfl) (by omega) (by simp [IntKind.bits]; omega), and15 (x := x / 16 / 16) (.inr rfl) (by omega) (by simp [IntKind.bits]; omega), and15 (x := x / 16 / 16 / 16) (.inr rfl) (by omega) (by simp [IntKind.bits]; omega)]
  rw [idx36 (x := x % 16) (by omega) (by omega), idx36 (x := x / 16 % 16) (by omega) (by omega), idx36 (x := x / 16 / 16 % 16) (by omega) (by omega), idx36 (x := x / 16 / 16 / 16) (by omega) (by omega)]
  unfold hex16
  by_cases c1 : x < 16
  · have d1 : ¬ (16 ≤ x) := by omega
    simp only [d1, decide_false]
    rw [idx36 h0 c1, if_pos c1]
    simp only [List.map_cons, List.map_nil, toB_ofB]
  · have d1 : 16 ≤ x := by omega
    simp only [d1, decide_true]
    rw [if_neg c1]
    by_cases c2 : x < 256
    · have d2 : ¬ (16 ≤ x / 16) := by omega
      simp only [d2, decide_false]
      rw [idx36 (by omega) (by omega), if_pos c2]
      simp only [List.map_cons, List.map_nil, toB_ofB]
    · have d2 : 16 ≤ x / 16 := by omega
      simp only [d2, decide_true]
      rw [if_neg c2]
      by_cases c3 : x < 4096
      · have d3 : ¬ (16 ≤ x / 16 / 16) := by omega
        simp only [d3, decide_false]
        rw [idx36 (by omega) (by omega), if_pos c3]
        simp only [List.map_cons, List.map_nil, toB_ofB]
        rw [show x / 16 / 16 = x / 256 by omega]
      · have d3 : 16 ≤ x / 16 / 16 := by omega
        have d4 : ¬ (16 ≤ x / 16 / 16 / 16) := by omega
        simp only [d3, decide_true, d4, decide_false]
        rw [if_neg c3]
        simp only [List.map_cons, List.map_nil, toB_ofB]
        rw [show x / 16 / 16 / 16 = x / 4096 by omega, show x / 16 / 16 % 16 = x / 256 % 16 by omega]

/-! ### what is registered -/
theorem lastB_at (c : Int) : ∀ s : List UInt8, 0 ≤ lastB c s → ofB (s.getD (lastB c s).toNat 0) = c
  | [], h => by simp [lastB] at h
  | b :: s, h => by
    have ih := lastB_at c s
    unfold lastB at h ⊢
    split at h
    · rename_i h1
      rw [if_pos h1]
      have e : (lastB c s + 1).toNat = (lastB c s).toNat + 1 := by omega
      rw [e]
      simpa using ih h1
    · rename_i h1
      rw [if_neg h1]
      split at h
      · rename_i h2
        rw [if_pos h2]
        simpa using h2
      · omega

/-- An end of m with a dot ahead, or m. -/
def EndOf (m s : List UInt8) : Prop := s.length ≤ m.length ∧ (s.length < m.length → m.drop (m.length - s.length - 1) = 46 :: s)

theorem isSuf_end {m s : List UInt8} (h : isSuf m s = true) : EndOf m s := by
  unfold isSuf at h
  rw [Bool.or_eq_true] at h
  rcases h with h | h
  · have : s = m := beq_iff_eq.1 h
    subst this
    exact ⟨Nat.le_refl _, fun h => absurd h (Nat.lt_irrefl _)⟩
  · unfold endsW at h
    simp only [Bool.and_eq_true, decide_eq_true_eq, beq_iff_eq, List.length_cons] at h
    exact ⟨by omega, fun _ => by rw [← h.2]; congr 1⟩

theorem ofB_46 {b : UInt8} (h : ofB b = 46) : b = 46 := by
  unfold ofB at h
  apply UInt8.toNat_inj.1
  have : b.toNat = 46 := by omega
  rw [this]; rfl

theorem lastLab_end (m : List UInt8) : EndOf m (lastLab m) := by
  unfold lastLab
  have lo := lastB_lo 46 m
  by_cases h : 0 ≤ lastB 46 m
  · have hat := ofB_46 (lastB_at 46 m h)
    have hlt : (lastB 46 m).toNat < m.length := by omega
    refine ⟨by simp, fun _ => ?_⟩
    have e1 : m.length - (m.drop (lastB 46 m + 1).toNat).length - 1 = (lastB 46 m).toNat := by simp; omega
    rw [e1, List.drop_eq_getElem_cons hlt, ← getD_at hlt, hat]
    congr 2
    omega
  · have e : (lastB 46 m + 1).toNat = 0 := by omega
    rw [e, List.drop_zero]
    exact ⟨Nat.le_refl _, fun h => absurd h (Nat.lt_irrefl _)⟩

theorem suffF_end (m : List UInt8) : ∀ (l : List (List UInt8)) (best : List UInt8) (found : Bool), EndOf m best → EndOf m (suffF m l best found)
  | [], best, found, h => h
  | s :: l, best, found, h => by
    unfold suffF
    split
    · rename_i hc
      rw [Bool.and_eq_true] at hc
      exact suffF_end m l s true (isSuf_end hc.1)
    · exact suffF_end m l best found h

theorem suffP_end (m : List UInt8) (l : List (List UInt8)) : EndOf m (suffP m l) := suffF_end m l _ _ (lastLab_end m)

theorem cut_0 {α : Type} (l : List α) (i : Nat) : cut l 0 i = l.take i := by
  unfold cut
  simp

theorem law29 (m : List UInt8) (l : List (List UInt8)) (hg : (decide (m.length ≤ BIG) && (decide (l.length ≤ BIG) && shorts l)) = true) : ∃ n, ∀ K, funA cx Sp3 n ak29 Tryz.f29 [.str m, .strs false l] [] K = K (.str (regP m l)) [] := by
  have hg0 := hg
  rw [Bool.and_eq_true, Bool.and_eq_true] at hg
  have hm := of_decide_eq_true hg.1
  have hm' := hm
  rw [BIG_eq] at hm'
  obtain ⟨h1, h2⟩ := suffP_end m l
  refine ⟨0, fun K => ?_⟩
  rw [run29, gd_true hg0]
  unfold regP
  by_cases he : (suffP m l).length = m.length
  · have : (((suffP m l).length : Int) == (m.length : Int)) = true := by rw [beq_iff_eq]; omega
    have e2 : ((suffP m l).length == m.length) = true := by rw [beq_iff_eq]; exact he
    simp only [this, e2]
  · have : (((suffP m l).length : Int) == (m.length : Int)) = false := by rw [beq_eq_false_iff_ne]; omega
    have e2 : ((suffP m l).length == m.length) = false := by rw [beq_eq_false_iff_ne]; exact he
    have w1 : IntKind.wrap .i64 ((m.length : Int) - ((suffP m l).length : Int)) = (m.length : Int) - ((suffP m l).length : Int) := wrap64_id (by omega) (by omega)
    have w2 : IntKind.wrap .i64 ((m.length : Int) - ((suffP m l).length : Int) - 1) = (m.length : Int) - ((suffP m l).length : Int) - 1 := wrap64_id (by omega) (by omega)
    have e3 : ((m.length : Int) - ((suffP m l).length : Int) - 1).toNat = m.length - (suffP m l).length - 1 := by omega
    simp only [this, e2, w1, w2, e3, cut_0]
    have lo := lastB_lo 46 (m.take (m.length - (suffP m l).length - 1))
    have hlt : (m.take (m.length - (suffP m l).length - 1)).length ≤ m.length := by simp; omega
    have w3 : IntKind.wrap .i64 (lastB 46 (m.take (m.length - (suffP m l).length - 1)) + 1) = lastB 46 (m.take (m.length - (suffP m l).length - 1)) + 1 := wrap64_id (by omega) (by omega)
    simp only [w3]
    rw [gd_dec ⟨by omega, by omega, by omega⟩, gd_dec (by omega), gd_dec ⟨by omega, by omega, by omega⟩, cut_end]

theorem law15 (u : URLV) (l : List (List UInt8)) (hg : (decide (u.h.n.length ≤ BIG) && (decide (l.length ≤ BIG) && shorts l)) = true) : ∃ n, ∀ K, funA cx Sp3 n ak15 Tryz.f15 [.agg (urlC u), .strs false l] [] K = K (.tup [.agg (origC (spSite u l)), .bool (spOrigOk u)]) [] := by
  rw [Bool.and_eq_true] at hg
  have hm := of_decide_eq_true hg.1
  refine ⟨0, fun K => ?_⟩
  rw [run15]
  unfold spSite
  cases hok : spOrigOk u
  · rfl
  · simp only [Bool.not_true]
    have hn : (spOrig u).h.n = u.h.n := by unfold spOrig; rw [hok]
    cases hk : ((spOrig u).h.k == 1)
    · simp only [Bool.not_false]
    · simp only [Bool.not_true]
      rw [hn]
      generalize hmm : u.h.n = m at *
      have hm' := hm
      rw [BIG_eq] at hm'
      obtain ⟨h1, h2⟩ := suffP_end m l
      rw [gd_true (by rw [Bool.and_eq_true]; exact ⟨decide_eq_true hm, hg.2⟩)]
      have w1 : IntKind.wrap .i64 ((m.length : Int) - ((suffP m l).length : Int)) = (m.length : Int) - ((suffP m l).length : Int) := wrap64_id (by omega) (by omega)
      have w2 : IntKind.wrap .i64 ((m.length : Int) - ((suffP m l).length : Int) - 1) = (m.length : Int) - ((suffP m l).length : Int) - 1 := wrap64_id (by omega) (by omega)
      simp only [w1, w2]
      unfold regP
      by_cases he : (suffP m l).length = m.length
      · have c1 : (m.length : Int) - ((suffP m l).length : Int) - 1 < 0 := by omega
        have e2 : ((suffP m l).length == m.length) = true := by rw [beq_iff_eq]; exact he
        simp only [c1, decide_true, e2]
      · have c1 : ¬ ((m.length : Int) - ((suffP m l).length : Int) - 1 < 0) := by omega
        have e2 : ((suffP m l).length == m.length) = false := by rw [beq_eq_false_iff_ne]; exact he
        have e3 : ((m.length : Int) - ((suffP m l).length : Int) - 1).toNat = m.length - (suffP m l).length - 1 := by omega
        simp only [c1, decide_false, e2, e3, cut_0]
        have hl := h2 (by omega)
        generalize hr : m.length - (suffP m l).length - 1 = r at *
        have hrm : r < m.length := by omega
        have htl : (m.take r).length = r := by simp; omega
        obtain ⟨o, ho, hol⟩ := splitB_last 46 (m.take r)
        have lo := lastB_lo 46 (m.take r)
        have hlen : (splitB 46 (m.take r)).length = o.length + 1 := by rw [ho]; simp
        have w3 : IntKind.wrap .i64 (((splitB 46 (m.take r)).length : Int) - 1) = (o.length : Int) := by rw [wrap64_id (by omega) (by omega)]; omega
        simp only [w3, Int.toNat_natCast]
        rw [gd_dec ⟨by omega, by omega, by omega⟩, gd_dec (by omega), gd_dec ⟨by omega, by omega⟩, ho, List.getElem?_append_right (by omega)]
        simp only [Nat.sub_self, List.getElem?_cons_zero]
        rw [cut_end]
        have hll : ((m.take r).drop (lastB 46 (m.take r) + 1).toNat).length ≤ r := by simp; omega
        rw [gd_dec (by rw [LIM_eq]; simp only [List.length_cons, List.length_nil]; omega), gd_dec (by rw [LIM_eq]; simp only [List.length_append, List.length_cons, List.length_nil]; omega)]
        have key : (m.take r).drop (lastB 46 (m.take r) + 1).toNat ++ [46] ++ suffP m l = m.drop (lastB 46 (m.take r) + 1).toNat := by
          have : m = m.take r ++ (46 :: suffP m l) := by rw [← hl, List.take_append_drop]
          have k1 : (lastB 46 (m.take r) + 1).toNat ≤ (m.take r).length := by omega
          calc (m.take r).drop (lastB 46 (m.take r) + 1).toNat ++ [46] ++ suffP m l = (m.take r ++ (46 :: suffP m l)).drop (lastB 46 (m.take r) + 1).toNat := by
                rw [List.drop_append_of_le_length k1]; simp
            _ = m.drop (lastB 46 (m.take r) + 1).toNat := by rw [← this]
        rw [key]

end Go.Proofs.YtognccpmaljamaaGreatDoor.Sa

/- The reference's text of eight pieces. -/
namespace Go.Proofs.YtognccpmaljamaaGreatDoor.Sa
open Go

/-! ### runs of 0, by signs alone -/
noncomputable def zerosB : List Bool → Int → Int → Int → Int → Int × Int
  | [], _, at_, most, _ => (at_, most)
  | x :: l, i, at_, most, n => match x with
    | true => (match decide (most < n + 1) with
      | true => zerosB l (i + 1) (i + 1 - (n + 1)) (n + 1) (n + 1)
      | false => zerosB l (i + 1) at_ most (n + 1))
    | false => zerosB l (i + 1) at_ most 0

theorem zerosF_B : ∀ (l : List Int) (i a m n : Int), zerosF l i a m n = zerosB (l.map (· == 0)) i a m n
  | [], _, _, _, _ => rfl
  | x :: l, i, a, m, n => by
    simp only [zerosF, zerosB, List.map_cons]
    cases x == 0
    · exact zerosF_B l _ _ _ _
    · cases decide (m < n + 1)
      · exact zerosF_B l _ _ _ _
      · exact zerosF_B l _ _ _ _

/-- How many 0 are ahead. -/
noncomputable def runL : List Int → Int
  | [] => 0
  | x :: l => match x == 0 with | true => runL l + 1 | false => 0
noncomputable def runB : List Bool → Int
  | [] => 0
  | x :: l => match x with | true => runB l + 1 | false => 0
theorem runL_B : ∀ l : List Int, runL l = runB (l.map (· == 0))
  | [] => rfl
  | x :: l => by
    simp only [runL, runB, List.map_cons]
    cases x == 0
    · rfl
    · simp only [runL_B l]

noncomputable def refF : List Int → Int → Int → Int → Int × Int
  | [], _, a, b => (a, b)
  | x :: l, i, a, b => match decide (b < runL (x :: l)) with
    | true => refF l (i + 1) i (runL (x :: l))
    | false => refF l (i + 1) a b
noncomputable def refB : List Bool → Int → Int → Int → Int × Int
  | [], _, a, b => (a, b)
  | x :: l, i, a, b => match decide (b < runB (x :: l)) with
    | true => refB l (i + 1) i (runB (x :: l))
    | false => refB l (i + 1) a b
theorem refF_B : ∀ (l : List Int) (i a b : Int), refF l i a b = refB (l.map (· == 0)) i a b
  | [], _, _, _ => rfl
  | x :: l, i, a, b => by
    have e := runL_B (x :: l)
    simp only [List.map_cons] at e
    simp only [refF, refB, List.map_cons, e]
    cases decide (b < runB ((x == 0) :: l.map (· == 0)))
    · exact refF_B l _ _ _
    · exact refF_B l _ _ _

/-- The two words for the first longest run agree. -/
noncomputable def agreeB (l : List Bool) : Bool :=
  (decide ((zerosB l 0 0 0 0).2 < 2) && ((refB l 0 8 1).1 == 8 && (refB l 0 8 1).2 == 1)) ||
  (!decide ((zerosB l 0 0 0 0).2 < 2) && ((refB l 0 8 1).1 == (zerosB l 0 0 0 0).1 && ((refB l 0 8 1).2 == (zerosB l 0 0 0 0).2 && (decide (0 ≤ (zerosB l 0 0 0 0).1) && decide ((zerosB l 0 0 0 0).1 + (zerosB l 0 0 0 0).2 ≤ 8)))))

theorem agree8 : ∀ b0 b1 b2 b3 b4 b5 b6 b7 : Bool, agreeB [b0, b1, b2, b3, b4, b5, b6, b7] = true := by decide


/-! ### the loops -/
theorem cells8 (p0 p1 p2 p3 p4 p5 p6 p7 : Int) : ([.int .u16 p0, .int .u16 p1, .int .u16 p2, .int .u16 p3, .int .u16 p4, .int .u16 p5, .int .u16 p6, .int .u16 p7] : List AVal) = ([p0, p1, p2, p3, p4, p5, p6, p7] : List Int).map (.int .u16) := rfl

theorem runL_0 {x : Int} {l : List Int} (h : (x == 0) = false) : runL (x :: l) = 0 := by simp only [runL, h]
theorem runL_1 {x : Int} {l : List Int} (h : (x == 0) = true) : runL (x :: l) = runL l + 1 := by simp only [runL, h]
theorem runL_hi : ∀ l : List Int, runL l ≤ l.length
  | [] => by simp [runL]
  | x :: l => by
    have := runL_hi l
    simp only [runL, List.length_cons]
    cases x == 0
    · simp only; omega
    · simp only; omega
theorem runL_lo : ∀ l : List Int, 0 ≤ runL l
  | [] => by simp [runL]
  | x :: l => by
    have := runL_lo l
    simp only [runL]
    cases x == 0
    · simp only; omega
    · simp only; omega

theorem loop50_1 (nn m0 : Nat) (p0 p1 p2 p3 p4 p5 p6 p7 : Int) (at_ best : Int) (i : Nat) (K : AVal → List (List AVal) → Option Res) : ∀ (d m1 n : Nat), i + n + d = 8 → d < m1 →
    L50_1 nn m0 m1 p0 p1 p2 p3 p4 p5 p6 p7 (n : Int) at_ best (i : Int) K = (match decide (best < n + runL (([p0, p1, p2, p3, p4, p5, p6, p7] : List Int).drop (i + n))) with | true => L50_0 nn m0 p0 p1 p2 p3 p4 p5 p6 p7 (i : Int) (n + runL (([p0, p1, p2, p3, p4, p5, p6, p7] : List Int).drop (i + n))) (i + 1 : Int) K | false => L50_0 nn m0 p0 p1 p2 p3 p4 p5 p6 p7 at_ best (i + 1 : Int) K)
  | 0, m1, n, h, hm => by
    obtain ⟨m1, rfl⟩ : ∃ k, m1 = k + 1 := ⟨m1 - 1, by omega⟩
    have e8 : i + n = 8 := by omega
    rw [L50_1_step, wrap64_id (x := (i : Int) + (n : Int)) (by omega) (by omega), wrap64_id (x := (i : Int) + 1) (by omega) (by omega)]
    have : ¬ ((i : Int) + (n : Int) < 8) := by omega
    simp only [this, decide_false, e8]
    have : runL (([p0, p1, p2, p3, p4, p5, p6, p7] : List Int).drop 8) = 0 := rfl
    rw [this, Int.add_zero]
    all_goals (cases decide (best < (n : Int)) <;> rfl)
  | d + 1, m1, n, h, hm => by
    obtain ⟨m1, rfl⟩ : ∃ k, m1 = k + 1 := ⟨m1 - 1, by omega⟩
    have hi : i + n < ([p0, p1, p2, p3, p4, p5, p6, p7] : List Int).length := by simp; omega
    rw [L50_1_step, wrap64_id (x := (i : Int) + (n : Int)) (by omega) (by omega), wrap64_id (x := (i : Int) + 1) (by omega) (by omega), wrap64_id (x := (n : Int) + 1) (by omega) (by omega), cells8]
    have h8 : (i : Int) + (n : Int) < 8 := by omega
    have et : 0 + ((i : Int) + (n : Int)).toNat * 1 = i + n := by omega
    simp only [h8, decide_true, et]
    rw [gd_dec ⟨by omega, by omega⟩, intAt_map hi]
    rw [List.drop_eq_getElem_cons hi]
    generalize hx : ([p0, p1, p2, p3, p4, p5, p6, p7] : List Int)[i + n] = x
    by_cases hb : (x == 0) = true
    rotate_left
    · have hb' : (x == 0) = false := by simpa using hb
      rw [runL_0 hb']
      simp only [hb', Int.add_zero]
      all_goals (cases decide (best < (n : Int)) <;> rfl)
    · rw [runL_1 hb]
      simp only [hb]
      have := loop50_1 nn m0 p0 p1 p2 p3 p4 p5 p6 p7 at_ best i K d m1 (n + 1) (by omega) (by omega)
      have e1 : ((n + 1 : Nat) : Int) = (n : Int) + 1 := by omega
      rw [e1] at this
      rw [this]
      have e2 : (n : Int) + 1 + runL (([p0, p1, p2, p3, p4, p5, p6, p7] : List Int).drop (i + (n + 1))) = (n : Int) + (runL (([p0, p1, p2, p3, p4, p5, p6, p7] : List Int).drop (i + n + 1)) + 1) := by rw [show i + (n + 1) = i + n + 1 by omega]; omega
      rw [e2]

theorem loop50_0 (nn : Nat) (hnn : 8 < nn) (p0 p1 p2 p3 p4 p5 p6 p7 : Int) (K : AVal → List (List AVal) → Option Res) : ∀ (d m0 i : Nat) (at_ best : Int), i + d = 8 → d < m0 →
    L50_0 nn m0 p0 p1 p2 p3 p4 p5 p6 p7 at_ best (i : Int) K = L50_2 nn nn (refF (([p0, p1, p2, p3, p4, p5, p6, p7] : List Int).drop i) i at_ best).1 (refF (([p0, p1, p2, p3, p4, p5, p6, p7] : List Int).drop i) i at_ best).2 p0 p1 p2 p3 p4 p5 p6 p7 [] 0 K
  | 0, m0, i, at_, best, h, hm => by
    obtain ⟨m0, rfl⟩ : ∃ k, m0 = k + 1 := ⟨m0 - 1, by omega⟩
    have : i = 8 := by omega
    subst this
    rw [L50_0_step]
    rfl
  | d + 1, m0, i, at_, best, h, hm => by
    obtain ⟨m0, rfl⟩ : ∃ k, m0 = k + 1 := ⟨m0 - 1, by omega⟩
    have hi : i < ([p0, p1, p2, p3, p4, p5, p6, p7] : List Int).length := by simp; omega
    rw [L50_0_step]
    have h8 : (i : Int) < 8 := by omega
    simp only [h8, decide_true]
    have := loop50_1 nn m0 p0 p1 p2 p3 p4 p5 p6 p7 at_ best i K (d + 1) nn 0 (by omega) (by omega)
    rw [show (0 : Int) = ((0 : Nat) : Int) from rfl, this]
    have e1 : ((i : Int) + 1) = ((i + 1 : Nat) : Int) := by omega
    simp only [Nat.add_zero, Int.natCast_zero, Int.zero_add, e1]
    rw [loop50_0 nn hnn p0 p1 p2 p3 p4 p5 p6 p7 K d m0 (i + 1) _ _ (by omega) (by omega), loop50_0 nn hnn p0 p1 p2 p3 p4 p5 p6 p7 K d m0 (i + 1) _ _ (by omega) (by omega)]
    rw [List.drop_eq_getElem_cons hi]
    simp only [refF, e1]
    cases decide (best < runL (([p0, p1, p2, p3, p4, p5, p6, p7] : List Int)[i] :: ([p0, p1, p2, p3, p4, p5, p6, p7] : List Int).drop (i + 1))) <;> rfl

/-! ### the text -/
noncomputable def colT (l : List Int) : List UInt8 := l.flatMap fun x => 58 :: hex16 x

theorem hex16_len (x : Int) : (hex16 x).length ≤ 4 := by
  unfold hex16
  split
  · simp
  · split
    · simp
    · split <;> simp

theorem spText_cons (x : Int) : ∀ l : List Int, spText (x :: l) = hex16 x ++ colT l := by
  intro l
  induction l generalizing x with
  | nil => simp [spText, joinL, colT]
  | cons y l ih =>
    have := ih y
    simp only [spText, List.map_cons, joinL] at this ⊢
    rw [this]
    simp [colT]

theorem all16 {p0 p1 p2 p3 p4 p5 p6 p7 : Int} (hg : (isU16 p0 && (isU16 p1 && (isU16 p2 && (isU16 p3 && (isU16 p4 && (isU16 p5 && (isU16 p6 && isU16 p7))))))) = true) : ∀ x ∈ ([p0, p1, p2, p3, p4, p5, p6, p7] : List Int), isU16 x = true := by
  simp only [Bool.and_eq_true] at hg
  intro x hx
  simp only [List.mem_cons, List.mem_nil_iff, or_false] at hx
  rcases hx with rfl | rfl | rfl | rfl | rfl | rfl | rfl | rfl
  · exact hg.1
  · exact hg.2.1
  · exact hg.2.2.1
  · exact hg.2.2.2.1
  · exact hg.2.2.2.2.1
  · exact hg.2.2.2.2.2.1
  · exact hg.2.2.2.2.2.2.1
  · exact hg.2.2.2.2.2.2.2

/-- A piece without a colon. -/
theorem step50_n (nn m : Nat) {p0 p1 p2 p3 p4 p5 p6 p7 : Int} (h16 : ∀ x ∈ ([p0, p1, p2, p3, p4, p5, p6, p7] : List Int), isU16 x = true) (at_ best : Int) (i : Nat) (s : List UInt8) (K : AVal → List (List AVal) → Option Res) (hi : i < ([p0, p1, p2, p3, p4, p5, p6, p7] : List Int).length) (hs : s.length ≤ 1000) (hab : -100 ≤ at_ + best ∧ at_ + best ≤ 100) (ha : (i : Int) ≠ at_) (hc : i = 0 ∨ (i : Int) = at_ + best) :
    L50_2 nn (m + 1) at_ best p0 p1 p2 p3 p4 p5 p6 p7 s (i : Int) K = L50_2 nn m at_ best p0 p1 p2 p3 p4 p5 p6 p7 (s ++ hex16 ([p0, p1, p2, p3, p4, p5, p6, p7] : List Int)[i]) ((i + 1 : Nat) : Int) K := by
  have hi' : i < 8 := by simpa using hi
  have hl := hex16_len ([p0, p1, p2, p3, p4, p5, p6, p7] : List Int)[i]
  rw [L50_2_step, cells8, wrap64_id (x := (i : Int) + 1) (by omega) (by omega), wrap64_id (x := at_ + best) (by omega) (by omega)]
  have h8 : (i : Int) < 8 := by omega
  have e0 : ((i : Int) == at_) = false := by rw [beq_eq_false_iff_ne]; exact ha
  have et : 0 + (i : Int).toNat * 1 = i := by omega
  have e1 : ((i : Int) + 1) = ((i + 1 : Nat) : Int) := by omega
  simp only [h8, decide_true, e0, et, intAt_map hi, e1]
  have g1 : ∀ X, gd (decide (0 ≤ (i : Int) ∧ (i : Int).toNat < 8)) X = X := fun X => gd_dec ⟨by omega, by omega⟩
  have g2 : ∀ X, gd (isU16 ([p0, p1, p2, p3, p4, p5, p6, p7] : List Int)[i]) X = X := fun X => gd_true (h16 _ (List.getElem_mem hi))
  have g3 : ∀ X, gd (decide (s.length + (hex16 ([p0, p1, p2, p3, p4, p5, p6, p7] : List Int)[i]).length ≤ LIM)) X = X := fun X => gd_dec (by rw [LIM_eq]; omega)
  rcases hc with hc | hc
  · have : ¬ (0 < (i : Int)) := by omega
    simp only [this, decide_false]
    rw [g1, g2, g3]
  · have : ((i : Int) == at_ + best) = true := by rw [beq_iff_eq]; exact hc
    simp only [this, Bool.not_true]
    rw [g1, g2, g3]
    cases decide (0 < (i : Int)) <;> rfl

/-- Pieces with a colon ahead of each. -/
theorem loop50_c (nn : Nat) {p0 p1 p2 p3 p4 p5 p6 p7 : Int} (h16 : ∀ x ∈ ([p0, p1, p2, p3, p4, p5, p6, p7] : List Int), isU16 x = true) (at_ best : Int) (K : AVal → List (List AVal) → Option Res) (hab : -100 ≤ at_ + best ∧ at_ + best ≤ 100) : ∀ (d m i : Nat) (s : List UInt8), i + d ≤ 8 → 0 < i → s.length + 10 * d ≤ 1000 → (∀ j : Nat, i ≤ j → j < i + d → (j : Int) ≠ at_ ∧ (j : Int) ≠ at_ + best) →
    L50_2 nn (m + d) at_ best p0 p1 p2 p3 p4 p5 p6 p7 s (i : Int) K = L50_2 nn m at_ best p0 p1 p2 p3 p4 p5 p6 p7 (s ++ colT ((([p0, p1, p2, p3, p4, p5, p6, p7] : List Int).drop i).take d)) ((i + d : Nat) : Int) K
  | 0, m, i, s, h8, h0, hs, hj => by simp [colT]
  | d + 1, m, i, s, h8, h0, hs, hj => by
    have hi : i < ([p0, p1, p2, p3, p4, p5, p6, p7] : List Int).length := by simp; omega
    have hl := hex16_len ([p0, p1, p2, p3, p4, p5, p6, p7] : List Int)[i]
    obtain ⟨j1, j2⟩ := hj i (Nat.le_refl _) (by omega)
    rw [show m + (d + 1) = (m + d) + 1 by omega, L50_2_step, cells8, wrap64_id (x := (i : Int) + 1) (by omega) (by omega), wrap64_id (x := at_ + best) (by omega) (by omega)]
    have hi8 : (i : Int) < 8 := by omega
    have e0 : ((i : Int) == at_) = false := by rw [beq_eq_false_iff_ne]; exact j1
    have e2 : ((i : Int) == at_ + best) = false := by rw [beq_eq_false_iff_ne]; exact j2
    have et : 0 + (i : Int).toNat * 1 = i := by omega
    have e1 : ((i : Int) + 1) = ((i + 1 : Nat) : Int) := by omega
    have hp : 0 < (i : Int) := by omega
    simp only [hi8, decide_true, e0, e2, hp, Bool.not_false, et, intAt_map hi, e1]
    rw [gd_dec (p := s.length + ([58] : List UInt8).length ≤ LIM) (by rw [LIM_eq]; simp only [List.length_cons, List.length_nil]; omega), gd_dec (p := 0 ≤ (i : Int) ∧ (i : Int).toNat < 8) ⟨by omega, by omega⟩, gd_true (h16 _ (List.getElem_mem hi)), gd_dec (p := (s ++ ([58] : List UInt8)).length + (hex16 ([p0, p1, p2, p3, p4, p5, p6, p7] : List Int)[i]).length ≤ LIM) (by rw [LIM_eq]; simp only [List.length_append, List.length_cons, List.length_nil]; omega)]
    rw [loop50_c nn h16 at_ best K hab d m (i + 1) _ (by omega) (by omega) (by simp only [List.length_append, List.length_cons, List.length_nil]; omega) (fun j ja jb => hj j (by omega) (by omega))]
    rw [List.drop_eq_getElem_cons hi, List.take_succ_cons, show i + 1 + d = i + (d + 1) by omega]
    simp only [colT, List.flatMap_cons, List.append_assoc, List.cons_append, List.nil_append]

theorem end50 (nn m : Nat) (p0 p1 p2 p3 p4 p5 p6 p7 at_ best : Int) (s : List UInt8) (K : AVal → List (List AVal) → Option Res) : L50_2 nn (m + 1) at_ best p0 p1 p2 p3 p4 p5 p6 p7 s 8 K = K (.str s) [] := by
  rw [L50_2_step]
  rfl

theorem colT_len : ∀ l : List Int, (colT l).length ≤ 5 * l.length
  | [] => by simp [colT]
  | x :: l => by
    have := colT_len l
    have := hex16_len x
    simp only [colT, List.flatMap_cons, List.length_append, List.length_cons] at *
    omega

/-- From a piece on to the end: its text. -/
theorem tail50 (nn m : Nat) {p0 p1 p2 p3 p4 p5 p6 p7 : Int} (h16 : ∀ x ∈ ([p0, p1, p2, p3, p4, p5, p6, p7] : List Int), isU16 x = true) (at_ best : Int) (K : AVal → List (List AVal) → Option Res) (hab : -100 ≤ at_ + best ∧ at_ + best ≤ 100) (i : Nat) (s : List UInt8) (hi : i < 8) (hs : s.length ≤ 500) (ha : ∀ j : Nat, i ≤ j → j < 8 → (j : Int) ≠ at_) (hc : i = 0 ∧ 8 ≤ at_ + best ∨ (i : Int) = at_ + best) :
    L50_2 nn (m + 9) at_ best p0 p1 p2 p3 p4 p5 p6 p7 s (i : Int) K = K (.str (s ++ spText (([p0, p1, p2, p3, p4, p5, p6, p7] : List Int).drop i))) [] := by
  have hi' : i < ([p0, p1, p2, p3, p4, p5, p6, p7] : List Int).length := by simpa using hi
  have hl := hex16_len ([p0, p1, p2, p3, p4, p5, p6, p7] : List Int)[i]
  rw [show m + 9 = (m + 1 + i) + (7 - i) + 1 by omega, step50_n nn _ h16 at_ best i s K hi' (by omega) hab (ha i (Nat.le_refl _) hi) (by rcases hc with hc | hc; exact .inl hc.1; exact .inr hc)]
  rw [loop50_c nn h16 at_ best K hab (7 - i) _ (i + 1) _ (by omega) (by omega) (by simp only [List.length_append]; omega) (fun j ja jb => ⟨ha j (by omega) (by omega), by omega⟩)]
  rw [show i + 1 + (7 - i) = 8 by omega, show m + 1 + i = (m + i) + 1 by omega]
  rw [show ((8 : Nat) : Int) = 8 from rfl, end50]
  rw [List.drop_eq_getElem_cons hi', spText_cons, List.append_assoc]
  congr 4
  rw [List.take_of_length_le (by first | (simp; done) | (simp; omega))]

theorem jump50 (nn m : Nat) (p0 p1 p2 p3 p4 p5 p6 p7 : Int) (a b : Nat) (s : List UInt8) (K : AVal → List (List AVal) → Option Res) (hs : s.length ≤ 1000) (h1 : 2 ≤ b) (h2 : a + b ≤ 8) :
    L50_2 nn (m + 1) (a : Int) (b : Int) p0 p1 p2 p3 p4 p5 p6 p7 s (a : Int) K = L50_2 nn m (a : Int) (b : Int) p0 p1 p2 p3 p4 p5 p6 p7 (s ++ [58, 58]) ((a + b : Nat) : Int) K := by
  rw [L50_2_step, wrap64_id (x := (b : Int) - 1) (by omega) (by omega), wrap64_id (x := (a : Int) + ((b : Int) - 1)) (by omega) (by omega), wrap64_id (x := (a : Int) + ((b : Int) - 1) + 1) (by omega) (by omega)]
  have h8 : (a : Int) < 8 := by omega
  have e0 : ((a : Int) == (a : Int)) = true := by rw [beq_iff_eq]
  simp only [h8, decide_true, e0]
  rw [gd_dec (by rw [LIM_eq]; simp only [List.length_cons, List.length_nil]; omega)]
  rw [show (a : Int) + ((b : Int) - 1) + 1 = ((a + b : Nat) : Int) by omega]

theorem head50 (nn m : Nat) {p0 p1 p2 p3 p4 p5 p6 p7 : Int} (h16 : ∀ x ∈ ([p0, p1, p2, p3, p4, p5, p6, p7] : List Int), isU16 x = true) (a b : Nat) (K : AVal → List (List AVal) → Option Res) (h1 : 2 ≤ b) (h2 : a + b ≤ 8) :
    L50_2 nn (m + a) (a : Int) (b : Int) p0 p1 p2 p3 p4 p5 p6 p7 [] 0 K = L50_2 nn m (a : Int) (b : Int) p0 p1 p2 p3 p4 p5 p6 p7 (spText (([p0, p1, p2, p3, p4, p5, p6, p7] : List Int).take a)) (a : Int) K := by
  cases a with
  | zero => rfl
  | succ a =>
    have hi : 0 < ([p0, p1, p2, p3, p4, p5, p6, p7] : List Int).length := by simp
    rw [show m + (a + 1) = (m + a) + 1 by omega]
    have := step50_n nn (m + a) h16 ((a + 1 : Nat) : Int) (b : Int) 0 [] K hi (by simp) ⟨by omega, by omega⟩ (by omega) (.inl rfl)
    rw [show ((0 : Nat) : Int) = 0 from rfl] at this
    rw [this]
    have hl := hex16_len ([p0, p1, p2, p3, p4, p5, p6, p7] : List Int)[0]
    rw [loop50_c nn h16 _ _ K ⟨by omega, by omega⟩ a m (0 + 1) _ (by omega) (by omega) (by simp only [List.length_append, List.length_nil]; omega) (fun j ja jb => ⟨by omega, by omega⟩)]
    rw [show 0 + 1 + a = a + 1 by omega]
    have e : [] ++ hex16 ([p0, p1, p2, p3, p4, p5, p6, p7] : List Int)[0] ++ colT ((([p0, p1, p2, p3, p4, p5, p6, p7] : List Int).drop (0 + 1)).take a) = spText (([p0, p1, p2, p3, p4, p5, p6, p7] : List Int).take (a + 1)) := by
      rw [List.take_succ_cons, spText_cons]; rfl
    rw [e]

theorem law50 (p0 p1 p2 p3 p4 p5 p6 p7 : Int) (hg : (isU16 p0 && (isU16 p1 && (isU16 p2 && (isU16 p3 && (isU16 p4 && (isU16 p5 && (isU16 p6 && isU16 p7))))))) = true) : ∃ n, ∀ K, funA cx Sp3 n ak50 Tryz.f50 [.agg [.int .u16 p0, .int .u16 p1, .int .u16 p2, .int .u16 p3, .int .u16 p4, .int .u16 p5, .int .u16 p6, .int .u16 p7]] [] K = K (.str (six6 p0 p1 p2 p3 p4 p5 p6 p7)) [] := by
  refine ⟨30, fun K => ?_⟩
  rw [run50]
  have h16 := all16 hg
  have := loop50_0 30 (by omega) p0 p1 p2 p3 p4 p5 p6 p7 K 8 30 0 8 1 (by omega) (by omega)
  rw [show ((0 : Nat) : Int) = 0 from rfl, List.drop_zero] at this
  rw [this]
  have ag := agree8 (p0 == 0) (p1 == 0) (p2 == 0) (p3 == 0) (p4 == 0) (p5 == 0) (p6 == 0) (p7 == 0)
  have er := refF_B ([p0, p1, p2, p3, p4, p5, p6, p7] : List Int) 0 8 1
  have ez := zerosF_B ([p0, p1, p2, p3, p4, p5, p6, p7] : List Int) 0 0 0 0
  simp only [List.map_cons, List.map_nil] at er ez
  unfold agreeB at ag
  rw [← er, ← ez] at ag
  unfold six6 zat zmost
  generalize refF ([p0, p1, p2, p3, p4, p5, p6, p7] : List Int) 0 8 1 = R at *
  generalize zerosF ([p0, p1, p2, p3, p4, p5, p6, p7] : List Int) 0 0 0 0 = Z at *
  simp only [Bool.or_eq_true, Bool.and_eq_true, decide_eq_true_eq, beq_iff_eq, Bool.not_eq_true', decide_eq_false_iff_not] at ag
  rcases ag with ⟨z2, r1, r2⟩ | ⟨z2, r1, r2, z0, z8⟩
  · rw [if_pos z2, r1, r2]
    have := tail50 30 21 h16 8 1 K ⟨by omega, by omega⟩ 0 [] (by omega) (by simp) (fun j _ hj => by omega) (.inl ⟨rfl, by omega⟩)
    rw [show ((0 : Nat) : Int) = 0 from rfl] at this
    rw [show (30 : Nat) = 21 + 9 from rfl] at this ⊢
    rw [this]
    rfl
  · rw [if_neg z2, r1, r2]
    obtain ⟨a, ha⟩ : ∃ a : Nat, Z.1 = a := ⟨Z.1.toNat, by omega⟩
    obtain ⟨b, hb⟩ : ∃ b : Nat, Z.2 = b := ⟨Z.2.toNat, by omega⟩
    have b2 : 2 ≤ b := by omega
    have ab8 : a + b ≤ 8 := by omega
    rw [ha, hb]
    clear ha hb r1 r2 z0 z8 z2
    have e1 : ((a : Int) + (b : Int)).toNat = a + b := by omega
    simp only [Int.toNat_natCast, e1]
    have H := head50 30 (29 - a + 1) h16 a b K (by omega) (by omega)
    rw [show 29 - a + 1 + a = 30 by omega] at H
    rw [H, jump50 _ _ _ _ _ _ _ _ _ _ a b _ K (by
      cases a with
      | zero => simp [spText, joinL]
      | succ a =>
        rw [List.take_succ_cons, spText_cons]
        have := hex16_len p0
        have := colT_len (([p1, p2, p3, p4, p5, p6, p7] : List Int).take a)
        have : (([p1, p2, p3, p4, p5, p6, p7] : List Int).take a).length ≤ 7 := by simp; omega
        simp only [List.length_append]; omega) (by omega) (by omega)]
    by_cases hab : a + b = 8
    · rw [hab, show 29 - a = (28 - a) + 1 by omega, show ((8 : Nat) : Int) = 8 from rfl, end50]
      simp [spText, joinL]
    · rw [show 29 - a = (20 - a) + 9 by omega]
      rw [tail50 30 _ h16 _ _ K ⟨by omega, by omega⟩ (a + b) _ (by omega) (by
        cases a with
        | zero => simp [spText, joinL]
        | succ a =>
          rw [List.take_succ_cons, spText_cons]
          have := hex16_len p0
          have := colT_len (([p1, p2, p3, p4, p5, p6, p7] : List Int).take a)
          have : (([p1, p2, p3, p4, p5, p6, p7] : List Int).take a).length ≤ 7 := by simp; omega
          simp only [List.length_append, List.length_cons, List.length_nil]; omega) (fun j ja jb => by omega) (.inr (by omega))]

end Go.Proofs.YtognccpmaljamaaGreatDoor.Sa

/- Contracts, printed by wip/sym.py. -/
namespace Go.Proofs.YtognccpmaljamaaGreatDoor.Sa
open Go

noncomputable def e104 : Ans := fun args h K => match args, h with
  | [.ints true .u8 ([] : List Int), .int .u64 x, .int .i64 base, .bool neg, .bool app], [] => gd ((app == false) && ((neg == false) && ((base == (16 : Int)) && (isU16 x)))) (K (.tup [.ints true .u8 ([] : List Int), .str (hex16 x)]) [])
  | _, _ => none
theorem ok104 : AnsOK Tryz.prog 104 e104 := ans_of_fun hT hE mixed hO3 Tryz.func104 (by kernel_rfl) fun args h K r hr => by
  unfold e104 at hr
  split at hr
  · obtain ⟨hg, hq⟩ := gd_some hr
    simp only [Bool.and_eq_true, beq_iff_eq] at hg
    obtain ⟨hc_app, hc_neg, hc_base, hg⟩ := hg
    subst hc_base
    subst hc_neg
    subst hc_app
    obtain ⟨n, hn⟩ := law104 _ (by simpa using hg)
    exact ⟨n, by rw [hn]; exact hq⟩
  · cases hr
noncomputable def e29 : Ans := fun args h K => match args, h with
  | [.str m, .strs false l], [] => gd (decide (m.length ≤ BIG) && (decide (l.length ≤ BIG) && shorts l)) (K (.str (regP m l)) [])
  | _, _ => none
theorem ok29 : AnsOK Tryz.prog 29 e29 := ans_of_fun hT hE mixed hO3 Tryz.func29 (by kernel_rfl) fun args h K r hr => by
  unfold e29 at hr
  split at hr
  · obtain ⟨hg, hq⟩ := gd_some hr
    obtain ⟨n, hn⟩ := law29 _ _ hg
    exact ⟨n, by rw [hn]; exact hq⟩
  · cases hr
noncomputable def e15 : Ans := fun args h K => match args, h with
  | [.agg cs_u, .strs false l], [] => (match rdURL cs_u with | some u => gd (decide (u.h.n.length ≤ BIG) && (decide (l.length ≤ BIG) && shorts l)) (K (.tup [.agg [.str ((spSite u l).sc), .int .i64 ((spSite u l).h.k), .str ((spSite u l).h.n), .int .u32 ((spSite u l).h.f), .int .u16 ((spSite u l).h.p0), .int .u16 ((spSite u l).h.p1), .int .u16 ((spSite u l).h.p2), .int .u16 ((spSite u l).h.p3), .int .u16 ((spSite u l).h.p4), .int .u16 ((spSite u l).h.p5), .int .u16 ((spSite u l).h.p6), .int .u16 ((spSite u l).h.p7), .int .i64 ((spSite u l).po)], .bool (spOrigOk u)]) []) | none => none)
  | _, _ => none
theorem ok15 : AnsOK Tryz.prog 15 e15 := ans_of_fun hT hE mixed hO3 Tryz.func15 (by kernel_rfl) fun args h K r hr => by
  unfold e15 at hr
  split at hr
  · split at hr
    · rename_i u_u hu_u
      have hu_u := rdURL_eq hu_u
      subst hu_u
      obtain ⟨hg, hq⟩ := gd_some hr
      obtain ⟨n, hn⟩ := law15 _ _ hg
      exact ⟨n, by rw [hn]; exact hq⟩
    · cases hr
  · cases hr
noncomputable def e50 : Ans := fun args h K => match args, h with
  | [.agg [.int .u16 p0, .int .u16 p1, .int .u16 p2, .int .u16 p3, .int .u16 p4, .int .u16 p5, .int .u16 p6, .int .u16 p7]], [] => gd (isU16 p0 && (isU16 p1 && (isU16 p2 && (isU16 p3 && (isU16 p4 && (isU16 p5 && (isU16 p6 && isU16 p7))))))) (K (.str (six6 p0 p1 p2 p3 p4 p5 p6 p7)) [])
  | _, _ => none
theorem ok50 : AnsOK Tryz.prog 50 e50 := ans_of_fun hT hE mixed hO3 Tryz.func50 (by kernel_rfl) fun args h K r hr => by
  unfold e50 at hr
  split at hr
  · obtain ⟨hg, hq⟩ := gd_some hr
    obtain ⟨n, hn⟩ := law50 _ _ _ _ _ _ _ _ hg
    exact ⟨n, by rw [hn]; exact hq⟩
  · cases hr
noncomputable def Sp4 : Oracle := ext 50 e50 (ext 15 e15 (ext 29 e29 (ext 104 e104 (Sp3))))
theorem hO4 : OracleOK Tryz.prog Sp4 := ext_ok ok50 (ext_ok ok15 (ext_ok ok29 (ext_ok ok104 (hO3))))

end Go.Proofs.YtognccpmaljamaaGreatDoor.Sa
