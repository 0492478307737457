/- SiteAsks answers true for every input whose arguments hold together at most 1048576 values and letters, and leaves its arguments as they were; the listed package-level tables hold what the program's text lays. -/
import Derived.Test.YtognccpmaljamaaGreatDoorB8
set_option linter.unusedVariables false
set_option linter.unusedSimpArgs false
set_option linter.unusedSectionVars false
set_option linter.unnecessarySimpa false
set_option linter.constructorNameAsVariable false
set_option maxRecDepth 100000
/- What hosts and origins print. -/
namespace Go.Proofs.YtognccpmaljamaaGreatDoor.Sa
open Go

noncomputable def SML : Nat := 16777216
theorem SML_eq : SML = 16777216 := rfl
noncomputable def six16 (p0 p1 p2 p3 p4 p5 p6 p7 : Int) : Bool := isU16 p0 && (isU16 p1 && (isU16 p2 && (isU16 p3 && (isU16 p4 && (isU16 p5 && (isU16 p6 && isU16 p7))))))
noncomputable def all16L (l : List Int) : Bool := l.all isU16
noncomputable def spHost (h : HostV) : List UInt8 := match h.k == 1 || h.k == 4 with
  | true => h.n
  | false => match h.k == 2 with
    | true => spFour h.f
    | false => match h.k == 3 with
      | true => [91] ++ six6 h.p0 h.p1 h.p2 h.p3 h.p4 h.p5 h.p6 h.p7 ++ [93]
      | false => []
noncomputable def hostG (h : HostV) : Bool := decide (h.n.length ≤ SML) && (inU32 h.f && six16 h.p0 h.p1 h.p2 h.p3 h.p4 h.p5 h.p6 h.p7)
noncomputable def spOTx (o : OrigV) : List UInt8 := match o.po == 0 with
  | true => o.sc ++ [58, 47, 47] ++ spHost o.h
  | false => o.sc ++ [58, 47, 47] ++ spHost o.h ++ ([58] ++ decL o.po)
noncomputable def origG (o : OrigV) : Bool := decide (o.sc.length ≤ SML) && (inI64 o.po && hostG o.h)

end Go.Proofs.YtognccpmaljamaaGreatDoor.Sa

/- Walks, printed by wip/sym.py. -/
namespace Go.Proofs.YtognccpmaljamaaGreatDoor.Sa
open Go

/-- strconv.FormatUint -/
noncomputable def ak147 : AC := (.seq (.reg []) (.seq (.seq (.reg []) (.cond (.seq (.seq (.reg []) (.cond (.seq (.reg []) .ret) .skip)) (.seq (.reg []) (.seq (.reg []) (.seq (.reg [[], [], [], [1]]) (.seq (.reg []) .ret))))) .skip)) (.seq (.reg [[], [], [], [1], [], [], [1]]) (.seq (.reg []) .ret))))
theorem run147 (n : Nat) (x : Int) (K : AVal → List (List AVal) → Option Res) : funA cx Sp4 n ak147 Tryz.f147 [.int .u64 x, .int .i64 (16 : Int)] [] K =
    gd (isU16 x) (K (.str (hex16 x)) []) := by kernel_rfl
/-- site.Site -/
noncomputable def ak14 : AC := (.seq (.reg [[1]]) (.seq (.reg [[2], [2]]) (.seq (.seq (.reg []) (.cond (.seq (.reg []) .ret) .skip)) (.seq (.reg []) (.seq (.seq (.reg []) (.cond (.reg [[], [], [], [1], [0, 2]]) .skip)) (.seq (.reg []) .ret))))))
theorem run14 (n : Nat) (u : URLV) (l : List (List UInt8)) (K : AVal → List (List AVal) → Option Res) : funA cx Sp4 n ak14 Tryz.f14 [.agg [.str u.sc, .str u.us, .str u.pw, .bool u.hh, .int .i64 u.h.k, .str u.h.n, .int .u32 u.h.f, .int .u16 u.h.p0, .int .u16 u.h.p1, .int .u16 u.h.p2, .int .u16 u.h.p3, .int .u16 u.h.p4, .int .u16 u.h.p5, .int .u16 u.h.p6, .int .u16 u.h.p7, .int .i64 u.po, .bool u.dk, .str u.tx, .strs false u.pa, .bool u.hq, .str u.qu, .bool u.hf, .str u.fr], .strs false l] [] K =
    (match !(spOrigOk u) with | true => K (.tup [.agg [.str ((spOrig u).sc), .int .i64 ((spOrig u).h.k), .str ((spOrig u).h.n), .int .u32 ((spOrig u).h.f), .int .u16 ((spOrig u).h.p0), .int .u16 ((spOrig u).h.p1), .int .u16 ((spOrig u).h.p2), .int .u16 ((spOrig u).h.p3), .int .u16 ((spOrig u).h.p4), .int .u16 ((spOrig u).h.p5), .int .u16 ((spOrig u).h.p6), .int .u16 ((spOrig u).h.p7), .int .i64 ((spOrig u).po)], .bool false]) [] | false => (match ((spOrig u).h.k) == (1 : Int) with | true => gd (decide (((spOrig u).h.n).length ≤ BIG) && (decide (l.length ≤ BIG) && shorts l)) (K (.tup [.agg [.str ((spOrig u).sc), .int .i64 ((spOrig u).h.k), .str (regP ((spOrig u).h.n) l), .int .u32 ((spOrig u).h.f), .int .u16 ((spOrig u).h.p0), .int .u16 ((spOrig u).h.p1), .int .u16 ((spOrig u).h.p2), .int .u16 ((spOrig u).h.p3), .int .u16 ((spOrig u).h.p4), .int .u16 ((spOrig u).h.p5), .int .u16 ((spOrig u).h.p6), .int .u16 ((spOrig u).h.p7), .int .i64 (0 : Int)], .bool true]) []) | false => K (.tup [.agg [.str ((spOrig u).sc), .int .i64 ((spOrig u).h.k), .str ((spOrig u).h.n), .int .u32 ((spOrig u).h.f), .int .u16 ((spOrig u).h.p0), .int .u16 ((spOrig u).h.p1), .int .u16 ((spOrig u).h.p2), .int .u16 ((spOrig u).h.p3), .int .u16 ((spOrig u).h.p4), .int .u16 ((spOrig u).h.p5), .int .u16 ((spOrig u).h.p6), .int .u16 ((spOrig u).h.p7), .int .i64 (0 : Int)], .bool true]) [])) := by kernel_rfl
/-- sprref7.PrintHost -/
noncomputable def ak34 : AC := (.seq (.reg []) (.seq (.seq (.reg []) (.block (.seq (.seq (.reg []) (.cond .skip (.reg []))) (.cond (.seq (.reg []) .ret) (.seq (.reg []) (.cond (.seq (.reg []) .ret) (.seq (.reg []) (.cond (.seq (.reg []) .ret) .skip)))))))) (.seq (.reg []) .ret)))
theorem run34 (n : Nat) (h : HostV) (K : AVal → List (List AVal) → Option Res) : funA cx Sp4 n ak34 Tryz.f34 [.agg [.int .i64 h.k, .str h.n, .int .u32 h.f, .int .u16 h.p0, .int .u16 h.p1, .int .u16 h.p2, .int .u16 h.p3, .int .u16 h.p4, .int .u16 h.p5, .int .u16 h.p6, .int .u16 h.p7]] [] K =
    (match h.k == (1 : Int) with | true => K (.str h.n) [] | false => (match h.k == (4 : Int) with | true => K (.str h.n) [] | false => (match h.k == (2 : Int) with | true => gd (inU32 h.f) (K (.str (spFour h.f)) []) | false => (match h.k == (3 : Int) with | true => gd (isU16 h.p0 && (isU16 h.p1 && (isU16 h.p2 && (isU16 h.p3 && (isU16 h.p4 && (isU16 h.p5 && (isU16 h.p6 && isU16 h.p7))))))) (gd (decide (([91] : List UInt8).length + (six6 h.p0 h.p1 h.p2 h.p3 h.p4 h.p5 h.p6 h.p7).length ≤ LIM)) (gd (decide ((([91] : List UInt8) ++ (six6 h.p0 h.p1 h.p2 h.p3 h.p4 h.p5 h.p6 h.p7)).length + ([93] : List UInt8).length ≤ LIM)) (K (.str ((([91] : List UInt8) ++ (six6 h.p0 h.p1 h.p2 h.p3 h.p4 h.p5 h.p6 h.p7)) ++ ([93] : List UInt8))) []))) | false => K (.str ([] : List UInt8)) [])))) := by kernel_rfl

end Go.Proofs.YtognccpmaljamaaGreatDoor.Sa

/- Laws of the fifth layer's functions. -/
namespace Go.Proofs.YtognccpmaljamaaGreatDoor.Sa
open Go

theorem law147 (x : Int) (hg : isU16 x = true) : ∃ n, ∀ K, funA cx Sp4 n ak147 Tryz.f147 [.int .u64 x, .int .i64 16] [] K = K (.str (hex16 x)) [] := by
  refine ⟨0, fun K => ?_⟩
  rw [run147, gd_true hg]

theorem law14 (u : URLV) (l : List (List UInt8)) (hg : (decide (u.h.n.length ≤ BIG) && (decide (l.length ≤ BIG) && shorts l)) = true) : ∃ n, ∀ K, funA cx Sp4 n ak14 Tryz.f14 [.agg (urlC u), .strs false l] [] K = K (.tup [.agg (origC (spSite u l)), .bool (spOrigOk u)]) [] := by
  refine ⟨0, fun K => ?_⟩
  rw [show urlC u = _ from rfl]
  unfold urlC
  rw [run14]
  unfold spSite
  cases hok : spOrigOk u
  · rfl
  · simp only [Bool.not_true]
    have hn : (spOrig u).h.n = u.h.n := by unfold spOrig; rw [hok]
    cases hk : ((spOrig u).h.k == 1)
    · rfl
    · simp only
      rw [gd_true (by rw [hn]; exact hg)]

theorem joinL_len (p : List UInt8) (b : Nat) : ∀ l : List (List UInt8), (∀ x ∈ l, x.length ≤ b) → (joinL p l).length ≤ l.length * (b + p.length)
  | [], _ => by simp [joinL]
  | [a], h => by
    have := h a (List.mem_cons_self ..)
    simp only [joinL, List.length_cons, List.length_nil]
    omega
  | a :: c :: l, h => by
    have h1 := h a (List.mem_cons_self ..)
    have := joinL_len p b (c :: l) (fun x hx => h x (List.mem_cons_of_mem _ hx))
    simp only [joinL, List.length_append]
    rw [List.length_cons, Nat.succ_mul]
    omega

theorem hex16_le (x : Int) : (hex16 x).length ≤ 4 := hex16_len x

theorem spText_len (l : List Int) : (spText l).length ≤ 5 * l.length := by
  unfold spText
  have := joinL_len [58] 4 (l.map hex16) (fun x hx => by
    obtain ⟨y, _, rfl⟩ := List.mem_map.1 hx
    exact hex16_len y)
  simp only [List.length_map, List.length_cons, List.length_nil] at this
  omega

theorem six6_len (p0 p1 p2 p3 p4 p5 p6 p7 : Int) : (six6 p0 p1 p2 p3 p4 p5 p6 p7).length ≤ 100 := by
  unfold six6
  split
  · have := spText_len [p0, p1, p2, p3, p4, p5, p6, p7]
    simp only [List.length_cons, List.length_nil] at this
    omega
  · have h1 := spText_len (([p0, p1, p2, p3, p4, p5, p6, p7] : List Int).take (zat p0 p1 p2 p3 p4 p5 p6 p7).toNat)
    have h2 := spText_len (([p0, p1, p2, p3, p4, p5, p6, p7] : List Int).drop (zat p0 p1 p2 p3 p4 p5 p6 p7 + zmost p0 p1 p2 p3 p4 p5 p6 p7).toNat)
    have h3 : (([p0, p1, p2, p3, p4, p5, p6, p7] : List Int).take (zat p0 p1 p2 p3 p4 p5 p6 p7).toNat).length ≤ 8 := by rw [List.length_take]; simp only [List.length_cons, List.length_nil]; omega
    have h4 : (([p0, p1, p2, p3, p4, p5, p6, p7] : List Int).drop (zat p0 p1 p2 p3 p4 p5 p6 p7 + zmost p0 p1 p2 p3 p4 p5 p6 p7).toNat).length ≤ 8 := by rw [List.length_drop]; simp only [List.length_cons, List.length_nil]; omega
    simp only [List.length_append, List.length_cons, List.length_nil]
    omega

theorem hostG_parts {h : HostV} (hg : hostG h = true) : h.n.length ≤ SML ∧ inU32 h.f = true ∧ six16 h.p0 h.p1 h.p2 h.p3 h.p4 h.p5 h.p6 h.p7 = true := by
  unfold hostG at hg
  simp only [Bool.and_eq_true, decide_eq_true_eq] at hg
  exact ⟨hg.1, hg.2.1, hg.2.2⟩

theorem law34 (h : HostV) (hg : hostG h = true) : ∃ n, ∀ K, funA cx Sp4 n ak34 Tryz.f34 [.agg (hostC h)] [] K = K (.str (spHost h)) [] := by
  obtain ⟨g1, g2, g3⟩ := hostG_parts hg
  refine ⟨0, fun K => ?_⟩
  unfold hostC
  rw [run34]
  unfold spHost
  have g3' := g3
  unfold six16 at g3'
  have := six6_len h.p0 h.p1 h.p2 h.p3 h.p4 h.p5 h.p6 h.p7
  rw [gd_true g2, gd_true g3', gd_dec (by rw [LIM_eq]; simp only [List.length_cons, List.length_nil]; omega), gd_dec (by rw [LIM_eq]; simp only [List.length_append, List.length_cons, List.length_nil]; omega)]
  cases h.k == 1 <;> cases h.k == 4 <;> cases h.k == 2 <;> cases h.k == 3 <;> rfl

theorem spHost_len {h : HostV} (hg : hostG h = true) : (spHost h).length ≤ SML + 1000 := by
  obtain ⟨g1, g2, g3⟩ := hostG_parts hg
  have h1 := six6_len h.p0 h.p1 h.p2 h.p3 h.p4 h.p5 h.p6 h.p7
  have h2 := spFour_len h.f
  rw [SML_eq] at g1 ⊢
  unfold spHost
  cases h.k == 1 || h.k == 4
  · cases h.k == 2
    · cases h.k == 3
      · simp
      · simp only [List.length_append, List.length_cons, List.length_nil]; omega
    · simp only; omega
  · simp only; omega

theorem origG_parts {o : OrigV} (hg : origG o = true) : o.sc.length ≤ SML ∧ inI64 o.po = true ∧ hostG o.h = true := by
  unfold origG at hg
  simp only [Bool.and_eq_true, decide_eq_true_eq] at hg
  exact ⟨hg.1, hg.2.1, hg.2.2⟩

end Go.Proofs.YtognccpmaljamaaGreatDoor.Sa

/- Contracts, printed by wip/sym.py. -/
namespace Go.Proofs.YtognccpmaljamaaGreatDoor.Sa
open Go

noncomputable def e147 : Ans := fun args h K => match args, h with
  | [.int .u64 x, .int .i64 base], [] => gd ((base == (16 : Int)) && (isU16 x)) (K (.str (hex16 x)) [])
  | _, _ => none
theorem ok147 : AnsOK Tryz.prog 147 e147 := ans_of_fun hT hE mixed hO4 Tryz.func147 (by kernel_rfl) fun args h K r hr => by
  unfold e147 at hr
  split at hr
  · obtain ⟨hg, hq⟩ := gd_some hr
    simp only [Bool.and_eq_true, beq_iff_eq] at hg
    obtain ⟨hc_base, hg⟩ := hg
    subst hc_base
    obtain ⟨n, hn⟩ := law147 _ (by simpa using hg)
    exact ⟨n, by rw [hn]; exact hq⟩
  · cases hr
noncomputable def e14 : Ans := fun args h K => match args, h with
  | [.agg cs_u, .strs false l], [] => (match rdURL cs_u with | some u => gd (decide (u.h.n.length ≤ BIG) && (decide (l.length ≤ BIG) && shorts l)) (K (.tup [.agg [.str ((spSite u l).sc), .int .i64 ((spSite u l).h.k), .str ((spSite u l).h.n), .int .u32 ((spSite u l).h.f), .int .u16 ((spSite u l).h.p0), .int .u16 ((spSite u l).h.p1), .int .u16 ((spSite u l).h.p2), .int .u16 ((spSite u l).h.p3), .int .u16 ((spSite u l).h.p4), .int .u16 ((spSite u l).h.p5), .int .u16 ((spSite u l).h.p6), .int .u16 ((spSite u l).h.p7), .int .i64 ((spSite u l).po)], .bool (spOrigOk u)]) []) | none => none)
  | _, _ => none
theorem ok14 : AnsOK Tryz.prog 14 e14 := ans_of_fun hT hE mixed hO4 Tryz.func14 (by kernel_rfl) fun args h K r hr => by
  unfold e14 at hr
  split at hr
  · split at hr
    · rename_i u_u hu_u
      have hu_u := rdURL_eq hu_u
      subst hu_u
      obtain ⟨hg, hq⟩ := gd_some hr
      obtain ⟨n, hn⟩ := law14 _ _ hg
      exact ⟨n, by rw [hn]; exact hq⟩
    · cases hr
  · cases hr
noncomputable def e34 : Ans := fun args h K => match args, h with
  | [.agg cs_h], [] => (match rdHost cs_h with | some h => gd (hostG h) (K (.str (spHost h)) []) | none => none)
  | _, _ => none
theorem ok34 : AnsOK Tryz.prog 34 e34 := ans_of_fun hT hE mixed hO4 Tryz.func34 (by kernel_rfl) fun args h K r hr => by
  unfold e34 at hr
  split at hr
  · split at hr
    · rename_i u_h hu_h
      have hu_h := rdHost_eq hu_h
      subst hu_h
      obtain ⟨hg, hq⟩ := gd_some hr
      obtain ⟨n, hn⟩ := law34 _ hg
      exact ⟨n, by rw [hn]; exact hq⟩
    · cases hr
  · cases hr
noncomputable def Sp5 : Oracle := ext 34 e34 (ext 14 e14 (ext 147 e147 (Sp4)))
theorem hO5 : OracleOK Tryz.prog Sp5 := ext_ok ok34 (ext_ok ok14 (ext_ok ok147 (hO4)))

end Go.Proofs.YtognccpmaljamaaGreatDoor.Sa

/- Walks, printed by wip/sym.py. -/
namespace Go.Proofs.YtognccpmaljamaaGreatDoor.Sa
open Go

/-- strconv.FormatUint -/
noncomputable def ak100 : AC := (.seq (.reg []) (.seq (.reg []) .ret))
theorem run100 (n : Nat) (x : Int) (K : AVal → List (List AVal) → Option Res) : funA cx Sp5 n ak100 Tryz.f100 [.int .u64 x, .int .i64 (16 : Int)] [] K =
    gd (isU16 x) (K (.str (hex16 x)) []) := by kernel_rfl
/-- sprref7.OriginText -/
noncomputable def ak21 : AC := (.seq (.reg []) (.seq (.dreg [1] (.step (.early 0) (.step (.early 1) (.step (.early 2) (.step (.early 3) (.step (.early 4) (.step (.go 5) (.step (.early 6) (.step (.early 7) .done)))))))) []) (.seq (.seq (.reg []) (.cond (.reg []) .skip)) (.seq (.reg []) .ret))))
theorem run21 (n : Nat) (o : OrigV) (K : AVal → List (List AVal) → Option Res) : funA cx Sp5 n ak21 Tryz.f21 [.agg [.str o.sc, .int .i64 o.h.k, .str o.h.n, .int .u32 o.h.f, .int .u16 o.h.p0, .int .u16 o.h.p1, .int .u16 o.h.p2, .int .u16 o.h.p3, .int .u16 o.h.p4, .int .u16 o.h.p5, .int .u16 o.h.p6, .int .u16 o.h.p7, .int .i64 o.po]] [] K =
    gd (decide (o.sc.length + ([58, 47, 47] : List UInt8).length ≤ LIM)) (gd (hostG o.h) (gd (decide ((o.sc ++ ([58, 47, 47] : List UInt8)).length + (spHost o.h).length ≤ LIM)) ((match !(o.po == (0 : Int)) with | true => gd (inI64 o.po && (decide (o.po.natAbs < 10 ^ 20) && decide (1 ≤ 20))) (gd (decide (([58] : List UInt8).length + (decL o.po).length ≤ LIM)) (gd (decide (((o.sc ++ ([58, 47, 47] : List UInt8)) ++ (spHost o.h)).length + (([58] : List UInt8) ++ (decL o.po)).length ≤ LIM)) (K (.str (((o.sc ++ ([58, 47, 47] : List UInt8)) ++ (spHost o.h)) ++ (([58] : List UInt8) ++ (decL o.po)))) []))) | false => K (.str ((o.sc ++ ([58, 47, 47] : List UInt8)) ++ (spHost o.h))) [])))) := by kernel_rfl

end Go.Proofs.YtognccpmaljamaaGreatDoor.Sa

/- Laws. -/
namespace Go.Proofs.YtognccpmaljamaaGreatDoor.Sa
open Go

theorem law100 (x : Int) (hg : isU16 x = true) : ∃ n, ∀ K, funA cx Sp5 n ak100 Tryz.f100 [.int .u64 x, .int .i64 16] [] K = K (.str (hex16 x)) [] := by
  refine ⟨0, fun K => ?_⟩
  rw [run100, gd_true hg]

theorem law21 (o : OrigV) (hg : origG o = true) : ∃ n, ∀ K, funA cx Sp5 n ak21 Tryz.f21 [.agg (origC o)] [] K = K (.str (spOTx o)) [] := by
  obtain ⟨g1, g2, g3⟩ := origG_parts hg
  have l1 := spHost_len g3
  have l2 := decL_len o.po
  rw [SML_eq] at g1 l1
  have g2' := g2
  unfold inI64 at g2'
  simp only [Bool.and_eq_true, decide_eq_true_eq] at g2'
  have g4 : (inI64 o.po && (decide (o.po.natAbs < 10 ^ 20) && decide (1 ≤ 20))) = true := by
    simp only [Bool.and_eq_true, decide_eq_true_eq]
    exact ⟨g2, by omega, by omega⟩
  refine ⟨0, fun K => ?_⟩
  unfold origC
  rw [run21]
  unfold spOTx
  rw [gd_dec (by rw [LIM_eq]; simp only [List.length_cons, List.length_nil]; omega), gd_true g3, gd_dec (by rw [LIM_eq]; simp only [List.length_append, List.length_cons, List.length_nil]; omega)]
  cases o.po == 0
  · simp only [Bool.not_false]
    rw [gd_true g4, gd_dec (by rw [LIM_eq]; simp only [List.length_cons, List.length_nil]; omega), gd_dec (by rw [LIM_eq]; simp only [List.length_append, List.length_cons, List.length_nil]; omega)]
  · rfl

end Go.Proofs.YtognccpmaljamaaGreatDoor.Sa

/- Contracts, printed by wip/sym.py. -/
namespace Go.Proofs.YtognccpmaljamaaGreatDoor.Sa
open Go

noncomputable def e100 : Ans := fun args h K => match args, h with
  | [.int .u64 x, .int .i64 base], [] => gd ((base == (16 : Int)) && (isU16 x)) (K (.str (hex16 x)) [])
  | _, _ => none
theorem ok100 : AnsOK Tryz.prog 100 e100 := ans_of_fun hT hE mixed hO5 Tryz.func100 (by kernel_rfl) fun args h K r hr => by
  unfold e100 at hr
  split at hr
  · obtain ⟨hg, hq⟩ := gd_some hr
    simp only [Bool.and_eq_true, beq_iff_eq] at hg
    obtain ⟨hc_base, hg⟩ := hg
    subst hc_base
    obtain ⟨n, hn⟩ := law100 _ (by simpa using hg)
    exact ⟨n, by rw [hn]; exact hq⟩
  · cases hr
noncomputable def e21 : Ans := fun args h K => match args, h with
  | [.agg cs_o], [] => (match rdOrig cs_o with | some o => gd (origG o) (K (.str (spOTx o)) []) | none => none)
  | _, _ => none
theorem ok21 : AnsOK Tryz.prog 21 e21 := ans_of_fun hT hE mixed hO5 Tryz.func21 (by kernel_rfl) fun args h K r hr => by
  unfold e21 at hr
  split at hr
  · split at hr
    · rename_i u_o hu_o
      have hu_o := rdOrig_eq hu_o
      subst hu_o
      obtain ⟨hg, hq⟩ := gd_some hr
      obtain ⟨n, hn⟩ := law21 _ hg
      exact ⟨n, by rw [hn]; exact hq⟩
    · cases hr
  · cases hr
noncomputable def Sp6 : Oracle := ext 21 e21 (ext 100 e100 (Sp5))
theorem hO6 : OracleOK Tryz.prog Sp6 := ext_ok ok21 (ext_ok ok100 (hO5))

end Go.Proofs.YtognccpmaljamaaGreatDoor.Sa

/- Walks, printed by wip/sym.py. -/
namespace Go.Proofs.YtognccpmaljamaaGreatDoor.Sa
open Go

/-- ip.text -/
noncomputable def ak63 : AC := (.seq (.reg []) (.seq (.reg []) (.seq (.seq (.reg [[6]]) (.block (.loopk [3, 6, 7, 8] (.seq (.reg []) (.seq (.cond .skip .exit) (.seq (.block (.seq (.reg []) (.reg [[1], [], [], [], [], [], [1]]))) (.reg []))))))) (.seq (.reg [[1], [2]]) .ret))))
noncomputable def la63_0 : AC := match navA [1, 1, 0, 1, 0] (ak63) with | .loopk _ a => a | a => a
noncomputable def lc63_0 : Code := match navC [1, 1, 0, 1, 0] (bodyC Tryz.f63) with | .loop a => a | a => a
noncomputable def L63_0 (n m0 : Nat) (l_6 : List Int) (n_7 : Int) (out_3 : List (List UInt8)) (n_8 : Int) (K : AVal → List (List AVal) → Option Res) : Option Res := lpA cx Sp6 n [3, 6, 7, 8] la63_0 lc63_0 m0 (⟨[.undef, .undef, .undef, .strs true out_3, .undef, .undef, .ints false .u16 l_6, .int .i64 n_7, .int .i64 n_8, .undef, .undef, .undef, .undef, .undef, .undef, .undef, .undef, .undef, .undef, .undef, .undef], []⟩) (contA cx Sp6 n [1, 1, 0, 1, 0] ak63 (bodyC Tryz.f63) (endK cx Tryz.f63 0 K))
theorem L63_0_step (n m0 : Nat) (l_6 : List Int) (n_7 : Int) (out_3 : List (List UInt8)) (n_8 : Int) (K : AVal → List (List AVal) → Option Res) : L63_0 n  (m0 + 1) l_6 n_7 out_3 n_8 K =
    (match decide (n_8 < n_7) with | true => (match idx l_6 n_8 with | some x1 => gd (isU16 (IntKind.wrap .u64 (x1))) (gd (decide (out_3.length + ([hex16 (IntKind.wrap .u64 (x1))] : List (List UInt8)).length ≤ LIM)) (L63_0 n  m0 l_6 n_7 (out_3 ++ ([hex16 (IntKind.wrap .u64 (x1))] : List (List UInt8))) (IntKind.wrap .i64 (n_8 + (1 : Int))) K)) | none => none) | false => gd (decide ((joinL ([58] : List UInt8) out_3).length ≤ LIM) && decide (out_3.length ≤ LIM)) (K (.str (joinL ([58] : List UInt8) out_3)) [])) := by kernel_rfl
theorem run63 (n : Nat) (l : List Int) (K : AVal → List (List AVal) → Option Res) : funA cx Sp6 n ak63 Tryz.f63 [.ints false .u16 l] [] K =
    L63_0 n  n l (l.length : Int) ([] : List (List UInt8)) (0 : Int) K := by kernel_rfl

end Go.Proofs.YtognccpmaljamaaGreatDoor.Sa

/- Laws. -/
namespace Go.Proofs.YtognccpmaljamaaGreatDoor.Sa
open Go

theorem wrapU64_id {x : Int} (h0 : 0 ≤ x) (h1 : x < 18446744073709551616) : IntKind.wrap .u64 x = x := by
  unfold IntKind.wrap
  simp [IntKind.bits, IntKind.signed]
  omega

theorem loop63 (nn : Nat) (l : List Int) (hl : l.length ≤ 100) (h16 : ∀ x ∈ l, isU16 x = true) (K : AVal → List (List AVal) → Option Res) : ∀ (d m i : Nat) (out : List (List UInt8)), i + d = l.length → d < m → out.length + d ≤ 100 → (∀ x ∈ out, x.length ≤ 4) →
    L63_0 nn m l (l.length : Int) out (i : Int) K = K (.str (joinL [58] (out ++ (l.drop i).map hex16))) []
  | 0, m, i, out, h, hm, ho, hx => by
    obtain ⟨m, rfl⟩ : ∃ k, m = k + 1 := ⟨m - 1, by omega⟩
    have : i = l.length := by omega
    subst this
    have := joinL_len [58] 4 out hx
    rw [L63_0_step]
    have hn : ¬ ((l.length : Int) < (l.length : Int)) := by omega
    simp only [hn, decide_false]
    rw [gd_true (by
      rw [Bool.and_eq_true]
      exact ⟨decide_eq_true (by rw [LIM_eq]; simp only [List.length_cons, List.length_nil] at this; omega), decide_eq_true (by rw [LIM_eq]; omega)⟩), List.drop_length, List.map_nil, List.append_nil]
  | d + 1, m, i, out, h, hm, ho, hx => by
    obtain ⟨m, rfl⟩ : ∃ k, m = k + 1 := ⟨m - 1, by omega⟩
    have hi : i < l.length := by omega
    have h1 := h16 _ (List.getElem_mem hi)
    have h1' := h1
    unfold isU16 at h1'
    simp only [Bool.and_eq_true, decide_eq_true_eq] at h1'
    rw [L63_0_step]
    have hn : ((i : Int) < (l.length : Int)) := by omega
    have e : idx l (i : Int) = some l[i] := by
      unfold idx
      rw [if_pos (by omega)]
      simp [hi]
    have w : IntKind.wrap .u64 l[i] = l[i] := wrapU64_id (by omega) (by omega)
    simp only [hn, decide_true, e, w]
    rw [gd_true h1, gd_dec (by rw [LIM_eq]; simp only [List.length_cons, List.length_nil]; omega), wrap64_id (x := (i : Int) + 1) (by omega) (by omega)]
    rw [show ((i : Int) + 1) = ((i + 1 : Nat) : Int) by omega]
    rw [loop63 nn l hl h16 K d m (i + 1) _ (by omega) (by omega) (by simp only [List.length_append, List.length_cons, List.length_nil]; omega) (fun x hxm => by
      rcases List.mem_append.1 hxm with hxm | hxm
      · exact hx x hxm
      · rw [List.mem_singleton.1 hxm]; exact hex16_len _)]
    rw [List.drop_eq_getElem_cons hi, List.map_cons, List.append_assoc, List.singleton_append]

theorem law63 (l : List Int) (hg : (decide (l.length ≤ 100) && all16L l) = true) : ∃ n, ∀ K, funA cx Sp6 n ak63 Tryz.f63 [.ints false .u16 l] [] K = K (.str (spText l)) [] := by
  rw [Bool.and_eq_true] at hg
  have h1 := of_decide_eq_true hg.1
  have h2 := List.all_eq_true.1 hg.2
  refine ⟨200, fun K => ?_⟩
  rw [run63]
  have := loop63 200 l h1 h2 K l.length 200 0 [] (by omega) (by omega) (by simp only [List.length_nil]; omega) (fun x hx => by cases hx)
  rw [show ((0 : Nat) : Int) = 0 from rfl] at this
  rw [this, List.drop_zero, List.nil_append]
  rfl

end Go.Proofs.YtognccpmaljamaaGreatDoor.Sa

/- Contracts, printed by wip/sym.py. -/
namespace Go.Proofs.YtognccpmaljamaaGreatDoor.Sa
open Go

noncomputable def e63 : Ans := fun args h K => match args, h with
  | [.ints false .u16 l], [] => gd (decide (l.length ≤ 100) && all16L l) (K (.str (spText l)) [])
  | _, _ => none
theorem ok63 : AnsOK Tryz.prog 63 e63 := ans_of_fun hT hE mixed hO6 Tryz.func63 (by kernel_rfl) fun args h K r hr => by
  unfold e63 at hr
  split at hr
  · obtain ⟨hg, hq⟩ := gd_some hr
    obtain ⟨n, hn⟩ := law63 _ hg
    exact ⟨n, by rw [hn]; exact hq⟩
  · cases hr
noncomputable def Sp7 : Oracle := ext 63 e63 (Sp6)
theorem hO7 : OracleOK Tryz.prog Sp7 := ext_ok ok63 (hO6)

end Go.Proofs.YtognccpmaljamaaGreatDoor.Sa

/- Walks, printed by wip/sym.py. -/
namespace Go.Proofs.YtognccpmaljamaaGreatDoor.Sa
open Go

/-- ip.Print6 -/
noncomputable def ak42 : AC := (.seq (.reg [[0, 1]]) (.seq (.reg []) (.seq (.seq (.reg []) (.cond (.seq (.reg [[], [2]]) .ret) .skip)) (.seq (.dreg [] (.step (.early 0) (.step (.early 1) (.step (.early 4) (.step (.early 5) (.step (.early 6) (.step (.early 7) (.step (.goall 2) (.step (.early 3) (.step (.goall 8) (.step (.early 9) (.step (.early 10) .done))))))))))) [[], [], [2], [], [], [], [], [], [2]]) .ret))))
theorem run42 (n : Nat) (p0 : Int) (p1 : Int) (p2 : Int) (p3 : Int) (p4 : Int) (p5 : Int) (p6 : Int) (p7 : Int) (K : AVal → List (List AVal) → Option Res) : funA cx Sp7 n ak42 Tryz.f42 [.agg [.int .u16 p0, .int .u16 p1, .int .u16 p2, .int .u16 p3, .int .u16 p4, .int .u16 p5, .int .u16 p6, .int .u16 p7]] [] K =
    (match decide (zmost p0 p1 p2 p3 p4 p5 p6 p7 < (2 : Int)) with | true => gd (decide (([p0, p1, p2, p3, p4, p5, p6, p7] : List Int).length ≤ 100) && all16L ([p0, p1, p2, p3, p4, p5, p6, p7] : List Int)) (K (.str (spText ([p0, p1, p2, p3, p4, p5, p6, p7] : List Int))) []) | false => gd (decide (0 ≤ (0 : Int) ∧ (0 : Int) ≤ zat p0 p1 p2 p3 p4 p5 p6 p7 ∧ zat p0 p1 p2 p3 p4 p5 p6 p7 ≤ (8 : Int))) (match intsC .u16 (cut [.int .u16 p0, .int .u16 p1, .int .u16 p2, .int .u16 p3, .int .u16 p4, .int .u16 p5, .int .u16 p6, .int .u16 p7] 0 ((zat p0 p1 p2 p3 p4 p5 p6 p7).toNat)) with | some l1 => gd (decide (0 ≤ IntKind.wrap .i64 ((zat p0 p1 p2 p3 p4 p5 p6 p7) + (zmost p0 p1 p2 p3 p4 p5 p6 p7)) ∧ IntKind.wrap .i64 ((zat p0 p1 p2 p3 p4 p5 p6 p7) + (zmost p0 p1 p2 p3 p4 p5 p6 p7)) ≤ (8 : Int) ∧ (8 : Int) ≤ (8 : Int))) (match intsC .u16 (cut [.int .u16 p0, .int .u16 p1, .int .u16 p2, .int .u16 p3, .int .u16 p4, .int .u16 p5, .int .u16 p6, .int .u16 p7] ((IntKind.wrap .i64 ((zat p0 p1 p2 p3 p4 p5 p6 p7) + (zmost p0 p1 p2 p3 p4 p5 p6 p7))).toNat) 8) with | some l2 => gd (decide (l1.length ≤ 100) && all16L l1) (gd (decide ((spText l1).length + ([58, 58] : List UInt8).length ≤ LIM)) (gd (decide (l2.length ≤ 100) && all16L l2) (gd (decide (((spText l1) ++ ([58, 58] : List UInt8)).length + (spText l2).length ≤ LIM)) (K (.str (((spText l1) ++ ([58, 58] : List UInt8)) ++ (spText l2))) [])))) | none => none) | none => none)) := by kernel_rfl

end Go.Proofs.YtognccpmaljamaaGreatDoor.Sa

/- Laws. -/
namespace Go.Proofs.YtognccpmaljamaaGreatDoor.Sa
open Go

theorem intsC_map (k : IntKind) : ∀ l : List Int, intsC k (l.map (.int k)) = some l
  | [] => rfl
  | x :: l => by
    have := intsC_map k l
    simp only [List.map_cons, intsC, decide_true, this, Option.map_some]

theorem cut_map {α β : Type} (f : α → β) (l : List α) (a b : Nat) : cut (l.map f) a b = (cut l a b).map f := by
  unfold cut
  rw [List.map_take, List.map_drop]

theorem law42 (p0 p1 p2 p3 p4 p5 p6 p7 : Int) (hg : six16 p0 p1 p2 p3 p4 p5 p6 p7 = true) : ∃ n, ∀ K, funA cx Sp7 n ak42 Tryz.f42 [.agg [.int .u16 p0, .int .u16 p1, .int .u16 p2, .int .u16 p3, .int .u16 p4, .int .u16 p5, .int .u16 p6, .int .u16 p7]] [] K = K (.str (six6 p0 p1 p2 p3 p4 p5 p6 p7)) [] := by
  have h16 := all16 hg
  refine ⟨0, fun K => ?_⟩
  rw [run42]
  have ag := agree8 (p0 == 0) (p1 == 0) (p2 == 0) (p3 == 0) (p4 == 0) (p5 == 0) (p6 == 0) (p7 == 0)
  have ez := zerosF_B ([p0, p1, p2, p3, p4, p5, p6, p7] : List Int) 0 0 0 0
  simp only [List.map_cons, List.map_nil] at ez
  unfold agreeB at ag
  rw [← ez] at ag
  unfold six6 zat zmost
  generalize zerosF ([p0, p1, p2, p3, p4, p5, p6, p7] : List Int) 0 0 0 0 = Z at *
  simp only [Bool.or_eq_true, Bool.and_eq_true, decide_eq_true_eq, beq_iff_eq, Bool.not_eq_true', decide_eq_false_iff_not] at ag
  have ha : ∀ l : List Int, (∀ x ∈ l, x ∈ ([p0, p1, p2, p3, p4, p5, p6, p7] : List Int)) → all16L l = true := fun l h => List.all_eq_true.2 fun x hx => h16 x (h x hx)
  by_cases z2 : Z.2 < 2
  · simp only [z2, decide_true, if_true]
    rw [gd_true (by rw [Bool.and_eq_true]; exact ⟨decide_eq_true (by simp), ha _ (fun x h => h)⟩)]
  · rcases ag with ag | ⟨_, _, _, z0, z8⟩
    · exact absurd ag.1 z2
    · simp only [z2, decide_false, if_false]
      rw [wrap64_id (x := Z.1 + Z.2) (by omega) (by omega), cells8, cut_map, cut_map, intsC_map, intsC_map]
      simp only
      have e8 : cut ([p0, p1, p2, p3, p4, p5, p6, p7] : List Int) (Z.1 + Z.2).toNat 8 = ([p0, p1, p2, p3, p4, p5, p6, p7] : List Int).drop (Z.1 + Z.2).toNat := cut_end ([p0, p1, p2, p3, p4, p5, p6, p7] : List Int) _
      rw [cut_0, e8]
      have t1 : (([p0, p1, p2, p3, p4, p5, p6, p7] : List Int).take Z.1.toNat).length ≤ 8 := by rw [List.length_take]; simp only [List.length_cons, List.length_nil]; omega
      have t2 : (([p0, p1, p2, p3, p4, p5, p6, p7] : List Int).drop (Z.1 + Z.2).toNat).length ≤ 8 := by rw [List.length_drop]; simp only [List.length_cons, List.length_nil]; omega
      have s1 := spText_len (([p0, p1, p2, p3, p4, p5, p6, p7] : List Int).take Z.1.toNat)
      have s2 := spText_len (([p0, p1, p2, p3, p4, p5, p6, p7] : List Int).drop (Z.1 + Z.2).toNat)
      rw [gd_dec ⟨by omega, by omega, by omega⟩, gd_dec ⟨by omega, by omega, by omega⟩, gd_true (by rw [Bool.and_eq_true]; exact ⟨decide_eq_true (by omega), ha _ (fun x h => List.mem_of_mem_take h)⟩), gd_dec (by rw [LIM_eq]; simp only [List.length_cons, List.length_nil]; omega), gd_true (by rw [Bool.and_eq_true]; exact ⟨decide_eq_true (by omega), ha _ (fun x h => List.mem_of_mem_drop h)⟩), gd_dec (by rw [LIM_eq]; simp only [List.length_append, List.length_cons, List.length_nil]; omega)]

end Go.Proofs.YtognccpmaljamaaGreatDoor.Sa

/- Contracts, printed by wip/sym.py. -/
namespace Go.Proofs.YtognccpmaljamaaGreatDoor.Sa
open Go

noncomputable def e42 : Ans := fun args h K => match args, h with
  | [.agg [.int .u16 p0, .int .u16 p1, .int .u16 p2, .int .u16 p3, .int .u16 p4, .int .u16 p5, .int .u16 p6, .int .u16 p7]], [] => gd (six16 p0 p1 p2 p3 p4 p5 p6 p7) (K (.str (six6 p0 p1 p2 p3 p4 p5 p6 p7)) [])
  | _, _ => none
theorem ok42 : AnsOK Tryz.prog 42 e42 := ans_of_fun hT hE mixed hO7 Tryz.func42 (by kernel_rfl) fun args h K r hr => by
  unfold e42 at hr
  split at hr
  · obtain ⟨hg, hq⟩ := gd_some hr
    obtain ⟨n, hn⟩ := law42 _ _ _ _ _ _ _ _ hg
    exact ⟨n, by rw [hn]; exact hq⟩
  · cases hr
noncomputable def Sp8 : Oracle := ext 42 e42 (Sp7)
theorem hO8 : OracleOK Tryz.prog Sp8 := ext_ok ok42 (hO7)

end Go.Proofs.YtognccpmaljamaaGreatDoor.Sa

/- Walks, printed by wip/sym.py. -/
namespace Go.Proofs.YtognccpmaljamaaGreatDoor.Sa
open Go

/-- host.Print -/
noncomputable def ak24 : AC := (.seq (.reg []) (.seq (.seq (.reg []) (.block (.seq (.seq (.reg []) (.cond .skip (.reg []))) (.cond (.seq (.reg []) .ret) (.seq (.reg []) (.cond (.seq (.reg []) .ret) (.seq (.reg []) (.cond (.seq (.reg []) .ret) .skip)))))))) (.seq (.reg []) .ret)))
theorem run24 (n : Nat) (h : HostV) (K : AVal → List (List AVal) → Option Res) : funA cx Sp8 n ak24 Tryz.f24 [.agg [.int .i64 h.k, .str h.n, .int .u32 h.f, .int .u16 h.p0, .int .u16 h.p1, .int .u16 h.p2, .int .u16 h.p3, .int .u16 h.p4, .int .u16 h.p5, .int .u16 h.p6, .int .u16 h.p7]] [] K =
    (match h.k == (1 : Int) with | true => K (.str h.n) [] | false => (match h.k == (4 : Int) with | true => K (.str h.n) [] | false => (match h.k == (2 : Int) with | true => K (.str (spFour h.f)) [] | false => (match h.k == (3 : Int) with | true => gd (six16 h.p0 h.p1 h.p2 h.p3 h.p4 h.p5 h.p6 h.p7) (gd (decide (([91] : List UInt8).length + (six6 h.p0 h.p1 h.p2 h.p3 h.p4 h.p5 h.p6 h.p7).length ≤ LIM)) (gd (decide ((([91] : List UInt8) ++ (six6 h.p0 h.p1 h.p2 h.p3 h.p4 h.p5 h.p6 h.p7)).length + ([93] : List UInt8).length ≤ LIM)) (K (.str ((([91] : List UInt8) ++ (six6 h.p0 h.p1 h.p2 h.p3 h.p4 h.p5 h.p6 h.p7)) ++ ([93] : List UInt8))) []))) | false => K (.str ([] : List UInt8)) [])))) := by kernel_rfl

end Go.Proofs.YtognccpmaljamaaGreatDoor.Sa

/- Laws. -/
namespace Go.Proofs.YtognccpmaljamaaGreatDoor.Sa
open Go

theorem law24 (h : HostV) (hg : hostG h = true) : ∃ n, ∀ K, funA cx Sp8 n ak24 Tryz.f24 [.agg (hostC h)] [] K = K (.str (spHost h)) [] := by
  obtain ⟨g1, g2, g3⟩ := hostG_parts hg
  refine ⟨0, fun K => ?_⟩
  unfold hostC
  rw [run24]
  unfold spHost
  have := six6_len h.p0 h.p1 h.p2 h.p3 h.p4 h.p5 h.p6 h.p7
  rw [gd_true g3, gd_dec (by rw [LIM_eq]; simp only [List.length_cons, List.length_nil]; omega), gd_dec (by rw [LIM_eq]; simp only [List.length_append, List.length_cons, List.length_nil]; omega)]
  cases h.k == 1 <;> cases h.k == 4 <;> cases h.k == 2 <;> cases h.k == 3 <;> rfl

end Go.Proofs.YtognccpmaljamaaGreatDoor.Sa

/- Contracts, printed by wip/sym.py. -/
namespace Go.Proofs.YtognccpmaljamaaGreatDoor.Sa
open Go

noncomputable def e24 : Ans := fun args h K => match args, h with
  | [.agg cs_h], [] => (match rdHost cs_h with | some h => gd (hostG h) (K (.str (spHost h)) []) | none => none)
  | _, _ => none
theorem ok24 : AnsOK Tryz.prog 24 e24 := ans_of_fun hT hE mixed hO8 Tryz.func24 (by kernel_rfl) fun args h K r hr => by
  unfold e24 at hr
  split at hr
  · split at hr
    · rename_i u_h hu_h
      have hu_h := rdHost_eq hu_h
      subst hu_h
      obtain ⟨hg, hq⟩ := gd_some hr
      obtain ⟨n, hn⟩ := law24 _ hg
      exact ⟨n, by rw [hn]; exact hq⟩
    · cases hr
  · cases hr
noncomputable def Sp9 : Oracle := ext 24 e24 (Sp8)
theorem hO9 : OracleOK Tryz.prog Sp9 := ext_ok ok24 (hO8)

end Go.Proofs.YtognccpmaljamaaGreatDoor.Sa

/- Walks, printed by wip/sym.py. -/
namespace Go.Proofs.YtognccpmaljamaaGreatDoor.Sa
open Go

/-- site.Text -/
noncomputable def ak9 : AC := (.seq (.reg []) (.seq (.dreg [1] (.step (.early 0) (.step (.early 1) (.step (.early 2) (.step (.early 3) (.step (.early 4) (.step (.go 5) (.step (.early 6) (.step (.early 7) .done)))))))) []) (.seq (.seq (.reg []) (.cond (.reg []) .skip)) (.seq (.reg []) .ret))))
theorem run9 (n : Nat) (o : OrigV) (K : AVal → List (List AVal) → Option Res) : funA cx Sp9 n ak9 Tryz.f9 [.agg [.str o.sc, .int .i64 o.h.k, .str o.h.n, .int .u32 o.h.f, .int .u16 o.h.p0, .int .u16 o.h.p1, .int .u16 o.h.p2, .int .u16 o.h.p3, .int .u16 o.h.p4, .int .u16 o.h.p5, .int .u16 o.h.p6, .int .u16 o.h.p7, .int .i64 o.po]] [] K =
    gd (decide (o.sc.length + ([58, 47, 47] : List UInt8).length ≤ LIM)) (gd (hostG o.h) (gd (decide ((o.sc ++ ([58, 47, 47] : List UInt8)).length + (spHost o.h).length ≤ LIM)) ((match !(o.po == (0 : Int)) with | true => gd (inI64 o.po) (gd (decide (([58] : List UInt8).length + (decL o.po).length ≤ LIM)) (gd (decide (((o.sc ++ ([58, 47, 47] : List UInt8)) ++ (spHost o.h)).length + (([58] : List UInt8) ++ (decL o.po)).length ≤ LIM)) (K (.str (((o.sc ++ ([58, 47, 47] : List UInt8)) ++ (spHost o.h)) ++ (([58] : List UInt8) ++ (decL o.po)))) []))) | false => K (.str ((o.sc ++ ([58, 47, 47] : List UInt8)) ++ (spHost o.h))) [])))) := by kernel_rfl

end Go.Proofs.YtognccpmaljamaaGreatDoor.Sa

/- Laws. -/
namespace Go.Proofs.YtognccpmaljamaaGreatDoor.Sa
open Go

theorem law9 (o : OrigV) (hg : origG o = true) : ∃ n, ∀ K, funA cx Sp9 n ak9 Tryz.f9 [.agg (origC o)] [] K = K (.str (spOTx o)) [] := by
  obtain ⟨g1, g2, g3⟩ := origG_parts hg
  have l1 := spHost_len g3
  have l2 := decL_len o.po
  rw [SML_eq] at g1 l1
  have g2' := g2
  unfold inI64 at g2'
  simp only [Bool.and_eq_true, decide_eq_true_eq] at g2'
  refine ⟨0, fun K => ?_⟩
  unfold origC
  rw [run9]
  unfold spOTx
  rw [gd_dec (by rw [LIM_eq]; simp only [List.length_cons, List.length_nil]; omega), gd_true g3, gd_dec (by rw [LIM_eq]; simp only [List.length_append, List.length_cons, List.length_nil]; omega)]
  cases o.po == 0
  · simp only [Bool.not_false]
    rw [gd_true g2, gd_dec (by rw [LIM_eq]; simp only [List.length_cons, List.length_nil]; omega), gd_dec (by rw [LIM_eq]; simp only [List.length_append, List.length_cons, List.length_nil]; omega)]
  · rfl

end Go.Proofs.YtognccpmaljamaaGreatDoor.Sa

/- Contracts, printed by wip/sym.py. -/
namespace Go.Proofs.YtognccpmaljamaaGreatDoor.Sa
open Go

noncomputable def e9 : Ans := fun args h K => match args, h with
  | [.agg cs_o], [] => (match rdOrig cs_o with | some o => gd (origG o) (K (.str (spOTx o)) []) | none => none)
  | _, _ => none
theorem ok9 : AnsOK Tryz.prog 9 e9 := ans_of_fun hT hE mixed hO9 Tryz.func9 (by kernel_rfl) fun args h K r hr => by
  unfold e9 at hr
  split at hr
  · split at hr
    · rename_i u_o hu_o
      have hu_o := rdOrig_eq hu_o
      subst hu_o
      obtain ⟨hg, hq⟩ := gd_some hr
      obtain ⟨n, hn⟩ := law9 _ hg
      exact ⟨n, by rw [hn]; exact hq⟩
    · cases hr
  · cases hr
noncomputable def Sp10 : Oracle := ext 9 e9 (Sp9)
theorem hO10 : OracleOK Tryz.prog Sp10 := ext_ok ok9 (hO9)

end Go.Proofs.YtognccpmaljamaaGreatDoor.Sa
