/- SiteAsks answers true for every input whose arguments hold together at most 1048576 values and letters, and leaves its arguments as they were; the listed package-level tables hold what the program's text lays. -/
import Derived.Test.YtognccpmaljamaaGreatDoorB9
import Derived.Test.YtognccpmaljamaaGreatDoorC0
set_option linter.unusedVariables false
set_option linter.unusedSimpArgs false
set_option linter.unusedSectionVars false
set_option linter.unnecessarySimpa false
set_option linter.constructorNameAsVariable false
set_option maxRecDepth 100000
/- The law's first() joined to the contracts. -/
namespace Go.Proofs.YtognccpmaljamaaGreatDoor.Sa
open Go

noncomputable def e5 : Ans := fun args h K => match args, h with
  | [], [] => K (.bool true) []
  | _, _ => none
theorem ok5 : AnsOK Tryz.prog 5 e5 := ans_of_run hT hE mixed hF hO0 fun args h K r hr => by
  unfold e5 at hr
  split at hr
  · exact ⟨400, by rw [first_run]; exact hr⟩
  · cases hr
noncomputable def SpT : Oracle := ext 5 e5 Sp10
theorem hOT : OracleOK Tryz.prog SpT := ext_ok ok5 hO10

end Go.Proofs.YtognccpmaljamaaGreatDoor.Sa

/- Walks, printed by wip/sym.py. -/
namespace Go.Proofs.YtognccpmaljamaaGreatDoor.Sa
open Go

/-- sprlaw11.SiteAsks -/
noncomputable def ak4 : AC := (.seq (.reg [[1], [1]]) (.seq (.seq (.reg []) (.cond (.seq (.reg []) .ret) .skip)) (.seq (.seq (.frz [2] (.reg [[2], [2], [], [], [2], [2], [], [], [], [], [2]])) (.cond (.seq (.reg []) .ret) .skip)) (.seq (.frz [2] (.reg [[], [2], [1]])) (.seq (.reg [[2], [2]]) (.seq (.reg [[2], [2]]) (.seq (.frz [9] (.reg [[2], [], [2, 2]])) (.seq (.frz [2] (.reg [[2], [], [2, 2]])) (.seq (.frz [9, 2] (.dreg [10, 12, 14, 16, 4, 5] (.step (.goall 0) (.step (.early 1) (.step (.early 2) (.step (.early 3) (.step (.goall 4) (.step (.early 5) (.step (.early 6) (.step (.early 7) (.step (.early 8) (.step (.early 9) (.step (.early 10) (.step (.early 11) (.step (.early 12) (.step (.early 13) (.step (.goall 14) (.step (.early 15) (.step (.early 16) (.step (.early 17) (.step (.early 18) (.step (.early 19) (.step (.early 20) (.step (.early 21) (.step (.early 22) (.step (.early 23) (.step (.early 25) (.step (.early 26) (.step (.goall 24) (.step (.goall 27) (.step (.early 28) (.step (.early 29) (.step (.early 30) (.step (.early 31) (.step (.early 32) (.step (.early 34) (.step (.early 35) (.step (.go 33) (.step (.go 36) (.step (.early 37) (.step (.early 38) (.step (.early 39) (.step (.early 40) (.step (.early 42) (.step (.go 41) (.step (.go 43) (.step (.early 44) (.step (.early 45) (.step (.early 46) (.step (.early 47) (.step (.early 49) (.step (.go 48) (.step (.go 50) (.step (.early 51) (.step (.early 52) (.step (.early 53) (.step (.early 54) (.step (.early 55) (.step (.go 56) (.step (.early 57) (.step (.early 58) .done))))))))))))))))))))))))))))))))))))))))))))))))))))))))))) [[], [], [], [], [], [], [], [], [], [], [], [], [], [], [], [], [], [], [], [], [], [], [], [], [0, 2], [], [], [0, 2], [], [], [], [2], [2], [2, 2], [2], [2], [2, 2], [], [], [], [], [], [], [], [], [], [], [], [], [], [], [], [], [], [1], [1], [2, 2]])) .ret)))))))))
theorem run4 (n : Nat) (u : URLV) (v : URLV) (l : List (List UInt8)) (m : List UInt8) (K : AVal → List (List AVal) → Option Res) : funA cx SpT n ak4 Tryz.f4 [.agg [.str u.sc, .str u.us, .str u.pw, .bool u.hh, .int .i64 u.h.k, .str u.h.n, .int .u32 u.h.f, .int .u16 u.h.p0, .int .u16 u.h.p1, .int .u16 u.h.p2, .int .u16 u.h.p3, .int .u16 u.h.p4, .int .u16 u.h.p5, .int .u16 u.h.p6, .int .u16 u.h.p7, .int .i64 u.po, .bool u.dk, .str u.tx, .strs false u.pa, .bool u.hq, .str u.qu, .bool u.hf, .str u.fr], .agg [.str v.sc, .str v.us, .str v.pw, .bool v.hh, .int .i64 v.h.k, .str v.h.n, .int .u32 v.h.f, .int .u16 v.h.p0, .int .u16 v.h.p1, .int .u16 v.h.p2, .int .u16 v.h.p3, .int .u16 v.h.p4, .int .u16 v.h.p5, .int .u16 v.h.p6, .int .u16 v.h.p7, .int .i64 v.po, .bool v.dk, .str v.tx, .strs false v.pa, .bool v.hq, .str v.qu, .bool v.hf, .str v.fr], .strs false l, .str m] [] K =
    (match !(spFew u) with | true => K (.bool true) [] | false => (match !(spFew v) with | true => K (.bool true) [] | false => gd (decide (l.length ≤ BIG)) ((match !(spfew l) with | true => K (.bool true) [] | false => (match decide ((2000 : Int) < (m.length : Int)) with | true => K (.bool true) [] | false => gd (decide (l.length ≤ BIG)) (gd (decide (u.h.n.length ≤ BIG) && (decide (l.length ≤ BIG) && shorts l)) (gd (decide (u.h.n.length ≤ BIG) && (decide (l.length ≤ BIG) && shorts l)) ((match origEq (spOrig u) (spOrig u) with | true => (match (spOrigOk u) == (spOrigOk u) with | true => (match origEq (spSite u l) (spSite u l) with | true => (match (spOrigOk u) == (spOrigOk u) with | true => gd (decide (m.length ≤ BIG) && (decide (l.length ≤ BIG) && shorts l)) (gd (decide (m.length ≤ BIG) && (decide (l.length ≤ BIG) && shorts l)) ((match (suffP m l) == (suffP m l) with | true => (match (spOrigOk u && (spOrigOk v && origEq (spOrig u) (spOrig v))) == (spOrigOk u && (spOrigOk v && origEq (spOrig u) (spOrig v))) with | true => gd (origG (spOrig u)) (gd (origG (spOrig u)) ((match (spOTx (spOrig u)) == (spOTx (spOrig u)) with | true => gd (origG (spSite u l)) (gd (origG (spSite u l)) ((match (spOTx (spSite u l)) == (spOTx (spSite u l)) with | true => gd (decide (l.length ≤ BIG) && decide (l.length ≤ BIG)) (K (.bool (l == l)) []) | false => K (.bool false) []))) | false => K (.bool false) []))) | false => K (.bool false) []) | false => K (.bool false) []))) | false => K (.bool false) []) | false => K (.bool false) []) | false => K (.bool false) []) | false => K (.bool false) []))))))))) := by kernel_rfl

end Go.Proofs.YtognccpmaljamaaGreatDoor.Sa

/- The law itself. -/
namespace Go.Proofs.YtognccpmaljamaaGreatDoor.Sa
open Go

theorem origEq_refl (o : OrigV) : origEq o o = true := by simp [origEq, hostEq]

noncomputable def uG (u : URLV) : Bool := decide (u.sc.length ≤ SML) && (inI64 u.po && hostG u.h)

theorem special_in (a : List UInt8) : inI64 (spSpecial a) = true := by
  unfold spSpecial
  cases a == ([104, 116, 116, 112] : List UInt8) <;> cases a == ([119, 115] : List UInt8) <;> cases a == ([104, 116, 116, 112, 115] : List UInt8) <;> cases a == ([119, 115, 115] : List UInt8) <;> cases a == ([102, 116, 112] : List UInt8) <;> decide

theorem zero_host : hostG ⟨0, [], 0, 0, 0, 0, 0, 0, 0, 0, 0⟩ = true := by
  unfold hostG six16 isU16 inU32
  simp

theorem orig_G {u : URLV} (hg : uG u = true) : origG (spOrig u) = true := by
  unfold uG at hg
  simp only [Bool.and_eq_true] at hg
  obtain ⟨g1, g2, g3⟩ := hg
  unfold spOrig
  cases spOrigOk u
  · unfold zeroOrig origG
    simp only [Bool.and_eq_true]
    exact ⟨decide_eq_true (Nat.zero_le _), by decide, zero_host⟩
  · unfold origG
    simp only [Bool.and_eq_true]
    refine ⟨g1, ?_, g3⟩
    cases u.po == -1
    · exact g2
    · exact special_in _

theorem regP_len (m : List UInt8) (l : List (List UInt8)) : (regP m l).length ≤ m.length := by
  unfold regP
  cases (suffP m l).length == m.length
  · simp
  · exact Nat.le_refl _

theorem site_G {u : URLV} (l : List (List UInt8)) (hg : uG u = true) : origG (spSite u l) = true := by
  have h := orig_G hg
  unfold spSite
  cases spOrigOk u
  · exact h
  · obtain ⟨g1, g2, g3⟩ := origG_parts h
    obtain ⟨h1, h2, h3⟩ := hostG_parts g3
    unfold origG hostG
    simp only [Bool.and_eq_true]
    refine ⟨decide_eq_true g1, by decide, decide_eq_true ?_, h2, h3⟩
    cases (spOrig u).h.k == 1
    · exact h1
    · exact Nat.le_trans (regP_len _ _) h1

theorem law4 (u v : URLV) (l : List (List UInt8)) (m : List UInt8) (hg : (uG u && (decide (l.length ≤ BIG) && (shorts l && decide (m.length ≤ BIG)))) = true) : ∃ n, ∀ K, funA cx SpT n ak4 Tryz.f4 [.agg (urlC u), .agg (urlC v), .strs false l, .str m] [] K = K (.bool true) [] := by
  simp only [Bool.and_eq_true] at hg
  obtain ⟨g1, g2, g3, g4⟩ := hg
  have o1 := orig_G g1
  have o2 := site_G l g1
  have g5 : decide (u.h.n.length ≤ BIG) = true := by
    unfold uG at g1
    simp only [Bool.and_eq_true] at g1
    have := (hostG_parts g1.2.2).1
    rw [SML_eq] at this
    exact decide_eq_true (by rw [BIG_eq]; omega)
  refine ⟨0, fun K => ?_⟩
  unfold urlC
  rw [run4]
  rw [origEq_refl, origEq_refl]
  simp only [g2, g3, g4, g5, o1, o2, Bool.and_true, gd_true rfl, beq_self_eq_true]
  cases spFew u <;> cases spFew v <;> cases spfew l <;> cases decide ((2000 : Int) < (m.length : Int)) <;> rfl

end Go.Proofs.YtognccpmaljamaaGreatDoor.Sa
