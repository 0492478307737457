/- SiteAsks answers true for every input whose arguments hold together at most 1048576 values and letters, and leaves its arguments as they were; the listed package-level tables hold what the program's text lays. -/
import Derived.Test.YtognccpmaljamaaGreatDoorB6
set_option linter.unusedVariables false
set_option linter.unusedSimpArgs false
set_option linter.unusedSectionVars false
set_option linter.unnecessarySimpa false
set_option linter.constructorNameAsVariable false
set_option maxRecDepth 100000
/- Dec: its contract by the number of digits (definitions). -/
namespace Go.Proofs.YtognccpmaljamaaGreatDoor.Sa
open Go

noncomputable def eD (d : Nat) : Ans := fun args h K => match args, h with
  | [.int .i64 n], [] => gd (inI64 n && (decide (n.natAbs < 10 ^ d) && decide (1 ≤ d))) (K (.str (decL n)) [])
  | _, _ => none
noncomputable def SpD (d : Nat) : Oracle := ext 35 (eD d) Sp2

end Go.Proofs.YtognccpmaljamaaGreatDoor.Sa

/- Dec, printed by wip/sym.py. -/
namespace Go.Proofs.YtognccpmaljamaaGreatDoor.Sa
open Go
noncomputable def ak35 : AC := (.seq (.reg []) (.seq (.seq (.reg []) (.cond (.seq (.seq (.reg []) (.cond (.seq (.reg []) .ret) .skip)) (.seq (.dreg [] (.step (.early 0) (.step (.early 1) (.step (.early 2) (.step (.early 5) (.step (.early 6) (.step (.early 7) (.step (.early 8) (.forkk 3 9 (.step (.early 4) (.step (.goall 9) (.step (.goall 10) (.step (.early 11) (.step (.early 12) .done))))) (.forkk 3 10 (.step (.early 4) (.step (.goall 10) (.step (.early 11) (.step (.early 12) .done)))) (.step (.goall 3) (.step (.early 4) (.step (.early 11) (.step (.early 12) .done))))))))))))) []) .ret)) .skip)) (.seq (.seq (.reg []) (.cond (.seq (.reg []) .ret) .skip)) (.seq (.dreg [] (.step (.early 0) (.step (.early 1) (.step (.early 3) (.step (.early 4) (.step (.early 5) (.step (.early 6) (.forkk 2 7 (.step (.goall 7) (.step (.goall 8) (.step (.early 9) (.step (.early 10) .done)))) (.forkk 2 8 (.step (.goall 8) (.step (.early 9) (.step (.early 10) .done))) (.step (.goall 2) (.step (.early 9) (.step (.early 10) .done))))))))))) []) .ret))))
theorem run35 (n : Nat) (d : Nat) (x : Int) (K : AVal → List (List AVal) → Option Res) : funA cx (SpD d) n ak35 Tryz.f35 [.int .i64 x] [] K =
    (match decide (x < (0 : Int)) with | true => (match (IntKind.wrap .i64 (Int.tdiv x (10 : Int))) == (0 : Int) with | true => gd (decide (([45] : List UInt8).length + (([IntKind.wrap .u8 (IntKind.wrap .i64 ((48 : Int) - (Int.tmod x (10 : Int))))] : List Int).map toB).length ≤ LIM)) (K (.str (([45] : List UInt8) ++ (([IntKind.wrap .u8 (IntKind.wrap .i64 ((48 : Int) - (Int.tmod x (10 : Int))))] : List Int).map toB))) []) | false => forkQ (gd (inI64 (IntKind.wrap .i64 (0 - IntKind.wrap .i64 (Int.tdiv x (10 : Int)))) && (decide ((IntKind.wrap .i64 (0 - IntKind.wrap .i64 (Int.tdiv x (10 : Int)))).natAbs < 10 ^ d) && decide (1 ≤ d))) (gd (decide (([45] : List UInt8).length + (decL (IntKind.wrap .i64 (0 - IntKind.wrap .i64 (Int.tdiv x (10 : Int))))).length ≤ LIM)) (gd (decide ((([45] : List UInt8) ++ (decL (IntKind.wrap .i64 (0 - IntKind.wrap .i64 (Int.tdiv x (10 : Int)))))).length + (([IntKind.wrap .u8 (IntKind.wrap .i64 ((48 : Int) - (Int.tmod x (10 : Int))))] : List Int).map toB).length ≤ LIM)) (K (.str ((([45] : List UInt8) ++ (decL (IntKind.wrap .i64 (0 - IntKind.wrap .i64 (Int.tdiv x (10 : Int)))))) ++ (([IntKind.wrap .u8 (IntKind.wrap .i64 ((48 : Int) - (Int.tmod x (10 : Int))))] : List Int).map toB))) [])))) (forkQ (gd (inI64 (IntKind.wrap .i64 (0 - IntKind.wrap .i64 (Int.tdiv x (10 : Int)))) && (decide ((IntKind.wrap .i64 (0 - IntKind.wrap .i64 (Int.tdiv x (10 : Int)))).natAbs < 10 ^ d) && decide (1 ≤ d))) (gd (decide (([45] : List UInt8).length + (decL (IntKind.wrap .i64 (0 - IntKind.wrap .i64 (Int.tdiv x (10 : Int))))).length ≤ LIM)) (gd (decide ((([45] : List UInt8) ++ (decL (IntKind.wrap .i64 (0 - IntKind.wrap .i64 (Int.tdiv x (10 : Int)))))).length + (([IntKind.wrap .u8 (IntKind.wrap .i64 ((48 : Int) - (Int.tmod x (10 : Int))))] : List Int).map toB).length ≤ LIM)) (K (.str ((([45] : List UInt8) ++ (decL (IntKind.wrap .i64 (0 - IntKind.wrap .i64 (Int.tdiv x (10 : Int)))))) ++ (([IntKind.wrap .u8 (IntKind.wrap .i64 ((48 : Int) - (Int.tmod x (10 : Int))))] : List Int).map toB))) [])))) (gd (inI64 (IntKind.wrap .i64 (0 - IntKind.wrap .i64 (Int.tdiv x (10 : Int)))) && (decide ((IntKind.wrap .i64 (0 - IntKind.wrap .i64 (Int.tdiv x (10 : Int)))).natAbs < 10 ^ d) && decide (1 ≤ d))) (gd (decide (([45] : List UInt8).length + (decL (IntKind.wrap .i64 (0 - IntKind.wrap .i64 (Int.tdiv x (10 : Int))))).length ≤ LIM)) (gd (decide ((([45] : List UInt8) ++ (decL (IntKind.wrap .i64 (0 - IntKind.wrap .i64 (Int.tdiv x (10 : Int)))))).length + (([IntKind.wrap .u8 (IntKind.wrap .i64 ((48 : Int) - (Int.tmod x (10 : Int))))] : List Int).map toB).length ≤ LIM)) (K (.str ((([45] : List UInt8) ++ (decL (IntKind.wrap .i64 (0 - IntKind.wrap .i64 (Int.tdiv x (10 : Int)))))) ++ (([IntKind.wrap .u8 (IntKind.wrap .i64 ((48 : Int) - (Int.tmod x (10 : Int))))] : List Int).map toB))) [])))))) | false => (match decide (x < (10 : Int)) with | true => K (.str (([IntKind.wrap .u8 (IntKind.wrap .i64 ((48 : Int) + x))] : List Int).map toB)) [] | false => forkQ (gd (inI64 (IntKind.wrap .i64 (Int.tdiv x (10 : Int))) && (decide ((IntKind.wrap .i64 (Int.tdiv x (10 : Int))).natAbs < 10 ^ d) && decide (1 ≤ d))) (gd (decide ((decL (IntKind.wrap .i64 (Int.tdiv x (10 : Int)))).length + (([IntKind.wrap .u8 (IntKind.wrap .i64 ((48 : Int) + (Int.tmod x (10 : Int))))] : List Int).map toB).length ≤ LIM)) (K (.str ((decL (IntKind.wrap .i64 (Int.tdiv x (10 : Int)))) ++ (([IntKind.wrap .u8 (IntKind.wrap .i64 ((48 : Int) + (Int.tmod x (10 : Int))))] : List Int).map toB))) []))) (forkQ (gd (inI64 (IntKind.wrap .i64 (Int.tdiv x (10 : Int))) && (decide ((IntKind.wrap .i64 (Int.tdiv x (10 : Int))).natAbs < 10 ^ d) && decide (1 ≤ d))) (gd (decide ((decL (IntKind.wrap .i64 (Int.tdiv x (10 : Int)))).length + (([IntKind.wrap .u8 (IntKind.wrap .i64 ((48 : Int) + (Int.tmod x (10 : Int))))] : List Int).map toB).length ≤ LIM)) (K (.str ((decL (IntKind.wrap .i64 (Int.tdiv x (10 : Int)))) ++ (([IntKind.wrap .u8 (IntKind.wrap .i64 ((48 : Int) + (Int.tmod x (10 : Int))))] : List Int).map toB))) []))) (gd (inI64 (IntKind.wrap .i64 (Int.tdiv x (10 : Int))) && (decide ((IntKind.wrap .i64 (Int.tdiv x (10 : Int))).natAbs < 10 ^ d) && decide (1 ≤ d))) (gd (decide ((decL (IntKind.wrap .i64 (Int.tdiv x (10 : Int)))).length + (([IntKind.wrap .u8 (IntKind.wrap .i64 ((48 : Int) + (Int.tmod x (10 : Int))))] : List Int).map toB).length ≤ LIM)) (K (.str ((decL (IntKind.wrap .i64 (Int.tdiv x (10 : Int)))) ++ (([IntKind.wrap .u8 (IntKind.wrap .i64 ((48 : Int) + (Int.tmod x (10 : Int))))] : List Int).map toB))) [])))))) := by kernel_rfl
end Go.Proofs.YtognccpmaljamaaGreatDoor.Sa

/- Dec: a number in digits. -/
namespace Go.Proofs.YtognccpmaljamaaGreatDoor.Sa
open Go

theorem toB_digit (n : Nat) (h : n < 10) : toB (IntKind.wrap .u8 (48 + (n : Int))) = digitL n := by
  have : IntKind.wrap .u8 (48 + (n : Int)) = 48 + (n : Int) := by
    unfold IntKind.wrap
    simp [IntKind.bits, IntKind.signed]
    omega
  rw [this]
  unfold toB digitL
  rw [if_pos h]
  congr 1

mutual
theorem eqb_refl : ∀ v : AVal, v.eqb v = true
  | .undef => rfl
  | .bool _ => by simp [AVal.eqb]
  | .int _ _ => by simp [AVal.eqb]
  | .str _ => by simp [AVal.eqb]
  | .nilp => rfl
  | .ptr _ _ => by simp [AVal.eqb]
  | .rptr cs => by simp only [AVal.eqb]; exact eqbL_refl cs
  | .eref _ _ => by simp [AVal.eqb]
  | .sref _ => by simp [AVal.eqb]
  | .ints _ _ _ => by simp [AVal.eqb]
  | .strs _ _ => by simp [AVal.eqb]
  | .strs2 _ _ => by simp [AVal.eqb]
  | .rows _ _ l => by simp only [AVal.eqb]; rw [eqbLL_refl l]; simp
  | .slen _ => by simp [AVal.eqb]
  | .agg cs => by simp only [AVal.eqb]; exact eqbL_refl cs
  | .tup cs => by simp only [AVal.eqb]; exact eqbL_refl cs
  | .fn _ cs => by simp only [AVal.eqb]; rw [eqbL_refl cs]; simp
  | .nilf => rfl
  | .nili => rfl
theorem eqbL_refl : ∀ l : List AVal, eqbL l l = true
  | [] => rfl
  | a :: l => by simp only [eqbL]; rw [eqb_refl a]; exact eqbL_refl l
theorem eqbLL_refl : ∀ l : List (List AVal), eqbLL l l = true
  | [] => rfl
  | a :: l => by simp only [eqbLL]; rw [eqbL_refl a]; exact eqbLL_refl l
end

theorem forkQ_same {x : Option Res} : forkQ x x = x := by
  unfold forkQ
  cases x with
  | none => rfl
  | some r =>
    have : eqR r r = true := by
      unfold eqR
      rw [eqb_refl, eqbLL_refl]
    simp [this]

theorem inI64_of {n : Int} (h0 : -9223372036854775808 ≤ n) (h1 : n ≤ 9223372036854775807) : inI64 n = true := by simp [inI64, h0, h1]

theorem lawD (d : Nat) (hd : d < 69) (x : Int) (h0 : -9223372036854775808 ≤ x) (h1 : x ≤ 9223372036854775807) (hx : x.natAbs < 10 ^ (d + 1)) (K : AVal → List (List AVal) → Option Res) : funA cx (SpD d) 0 ak35 Tryz.f35 [.int .i64 x] [] K = K (.str (decL x)) [] := by
  rw [run35]
  by_cases hneg : x < 0
  · obtain ⟨m, rfl⟩ : ∃ m : Nat, x = -(m : Int) := ⟨(-x).toNat, by omega⟩
    have hm : m ≠ 0 := by omega
    have hma : (-(m : Int)).natAbs = m := by omega
    rw [hma] at hx
    have e1 : Int.tdiv (-(m : Int)) 10 = -((m / 10 : Nat) : Int) := by rw [Int.neg_tdiv]; rw [show (10 : Int) = ((10 : Nat) : Int) from rfl, ← Int.ofNat_tdiv]
    have e2 : Int.tmod (-(m : Int)) 10 = -((m % 10 : Nat) : Int) := by rw [Int.neg_tmod]; rw [show (10 : Int) = ((10 : Nat) : Int) from rfl, ← Int.ofNat_tmod]
    have e3 : IntKind.wrap .i64 ((48 : Int) - -((m % 10 : Nat) : Int)) = 48 + ((m % 10 : Nat) : Int) := by rw [wrap64_id (by omega) (by omega)]; omega
    have ed : decL (-(m : Int)) = 45 :: natL 10 70 m [] := by
      unfold decL
      rw [if_pos hneg]
      congr 2
      omega
    simp only [hneg, decide_true, e1, e2, e3]
    rw [wrap64_id (x := -((m / 10 : Nat) : Int)) (by omega) (by omega)]
    by_cases hs : m < 10
    · have : ((-((m / 10 : Nat) : Int)) == 0) = true := by rw [beq_iff_eq]; omega
      simp only [this]
      rw [gd_dec (by rw [LIM_eq]; simp only [List.length_cons, List.length_nil, List.length_map]; omega), ed, natL_one m hs]
      simp only [List.map_cons, List.map_nil]
      rw [toB_digit (m % 10) (by omega), Nat.mod_eq_of_lt hs]
      rfl
    · have : ((-((m / 10 : Nat) : Int)) == 0) = false := by rw [beq_eq_false_iff_ne]; omega
      simp only [this, forkQ_same]
      rw [show (0 : Int) - -((m / 10 : Nat) : Int) = ((m / 10 : Nat) : Int) by omega, wrap64_id (x := ((m / 10 : Nat) : Int)) (by omega) (by omega)]
      have hl := decL_len ((m / 10 : Nat) : Int)
      rw [gd_true (by rw [inI64_of (by omega) (by omega), Bool.true_and, Bool.and_eq_true]; exact ⟨decide_eq_true (by rw [Nat.pow_succ] at hx; omega), decide_eq_true (by cases d with | zero => simp at hx; omega | succ d => omega)⟩), gd_dec (by rw [LIM_eq]; simp only [List.length_cons, List.length_nil]; omega), gd_dec (by rw [LIM_eq]; simp only [List.length_append, List.length_cons, List.length_nil, List.length_map]; omega)]
      rw [ed, natL_step m hs (Nat.lt_of_lt_of_le hx (Nat.pow_le_pow_right (by omega) (by omega)))]
      simp only [List.map_cons, List.map_nil]
      rw [toB_digit (m % 10) (by omega)]
      have : decL ((m / 10 : Nat) : Int) = natL 10 70 (m / 10) [] := by
        unfold decL
        rw [if_neg (by omega), Int.toNat_natCast]
      rw [this]
      rfl
  · obtain ⟨m, rfl⟩ : ∃ m : Nat, x = (m : Int) := ⟨x.toNat, by omega⟩
    have hma : ((m : Int)).natAbs = m := by omega
    rw [hma] at hx
    have e1 : Int.tdiv (m : Int) 10 = ((m / 10 : Nat) : Int) := by rw [show (10 : Int) = ((10 : Nat) : Int) from rfl, ← Int.ofNat_tdiv]
    have e2 : Int.tmod (m : Int) 10 = ((m % 10 : Nat) : Int) := by rw [show (10 : Int) = ((10 : Nat) : Int) from rfl, ← Int.ofNat_tmod]
    have ed : decL (m : Int) = natL 10 70 m [] := by
      unfold decL
      rw [if_neg hneg, Int.toNat_natCast]
    simp only [hneg, decide_false, e1, e2]
    rw [wrap64_id (x := (48 : Int) + ((m % 10 : Nat) : Int)) (by omega) (by omega)]
    by_cases hs : m < 10
    · have hs' : (m : Int) < 10 := by omega
      simp only [hs', decide_true]
      rw [wrap64_id (x := (48 : Int) + (m : Int)) (by omega) (by omega), ed, natL_one m hs]
      simp only [List.map_cons, List.map_nil]
      rw [toB_digit m hs]
    · have hs' : ¬ (m : Int) < 10 := by omega
      simp only [hs', decide_false, forkQ_same]
      rw [wrap64_id (x := ((m / 10 : Nat) : Int)) (by omega) (by omega)]
      have hl := decL_len ((m / 10 : Nat) : Int)
      rw [gd_true (by rw [inI64_of (by omega) (by omega), Bool.true_and, Bool.and_eq_true]; exact ⟨decide_eq_true (by rw [Nat.pow_succ] at hx; omega), decide_eq_true (by cases d with | zero => simp at hx; omega | succ d => omega)⟩), gd_dec (by rw [LIM_eq]; simp only [List.length_cons, List.length_nil, List.length_map]; omega)]
      rw [ed, natL_step m hs (Nat.lt_of_lt_of_le hx (Nat.pow_le_pow_right (by omega) (by omega)))]
      simp only [List.map_cons, List.map_nil]
      rw [toB_digit (m % 10) (by omega)]
      have : decL ((m / 10 : Nat) : Int) = natL 10 70 (m / 10) [] := by
        unfold decL
        rw [if_neg (by omega), Int.toNat_natCast]
      rw [this]

theorem okD : ∀ d, d < 69 → AnsOK Tryz.prog 35 (eD d)
  | 0, _ => fun args h K r hr => by
    unfold eD at hr
    split at hr
    · obtain ⟨hg, hr⟩ := gd_some hr
      rw [Bool.and_eq_true] at hg
      have h0 := hg.2
      simp at h0
    · cases hr
  | d + 1, hd => ans_of_fun hT hE mixed (ext_ok (okD d (by omega)) hO2) Tryz.func35 (by kernel_rfl) fun args h K r hr => by
    unfold eD at hr
    split at hr
    · rename_i n
      obtain ⟨hg, hr⟩ := gd_some hr
      rw [Bool.and_eq_true, Bool.and_eq_true] at hg
      have h0 := of_decide_eq_true hg.2.1
      have h1 := hg.1
      unfold inI64 at h1
      rw [Bool.and_eq_true] at h1
      exact ⟨0, by rw [show ext 35 (eD d) Sp2 = SpD d from rfl, lawD d (by omega) n (of_decide_eq_true h1.1) (of_decide_eq_true h1.2) h0]; exact hr⟩
    · cases hr

noncomputable def Sp2d : Oracle := ext 35 (eD 20) Sp2
theorem hO2d : OracleOK Tryz.prog Sp2d := ext_ok (okD 20 (by decide)) hO2

end Go.Proofs.YtognccpmaljamaaGreatDoor.Sa

/- Walks, printed by wip/sym.py. -/
namespace Go.Proofs.YtognccpmaljamaaGreatDoor.Sa
open Go

/-- bits.TrailingZeros -/
noncomputable def ak152 : AC := (.seq (.reg []) (.seq (.cond (.seq (.reg []) .ret) .skip) (.seq (.reg []) .ret)))
theorem run152 (n : Nat)  (K : AVal → List (List AVal) → Option Res) : funA cx Sp2d n ak152 Tryz.f152 [.int .u64 (16 : Int)] [] K =
    K (.int .i64 (4 : Int)) [] := by kernel_rfl
/-- site.Suffix -/
noncomputable def ak17 : AC := (.seq (.reg []) (.seq (.reg []) (.seq (.seq (.reg [[6]]) (.block (.loopk [0, 5, 6, 14, 15, 16] (.seq (.reg []) (.seq (.cond .skip .exit) (.seq (.block (.seq (.reg []) (.seq (.reg []) (.cond (.reg []) .skip)))) (.reg []))))))) (.seq (.reg []) .ret))))
noncomputable def la17_0 : AC := match navA [1, 1, 0, 1, 0] (ak17) with | .loopk _ a => a | a => a
noncomputable def lc17_0 : Code := match navC [1, 1, 0, 1, 0] (bodyC Tryz.f17) with | .loop a => a | a => a
noncomputable def L17_0 (n m0 : Nat) (name_0 : List UInt8) (best_5 : List UInt8) (ls_14 : List (List UInt8)) (n_15 : Int) (found_6 : Bool) (n_16 : Int) (K : AVal → List (List AVal) → Option Res) : Option Res := lpA cx Sp2d n [0, 5, 6, 14, 15, 16] la17_0 lc17_0 m0 (⟨[.str name_0, .undef, .undef, .undef, .undef, .str best_5, .bool found_6, .undef, .undef, .undef, .undef, .undef, .undef, .undef, .strs false ls_14, .int .i64 n_15, .int .i64 n_16, .undef, .undef, .undef, .undef, .undef, .undef, .undef, .undef, .undef, .undef, .undef, .undef, .undef, .undef, .undef, .undef, .undef, .undef, .undef, .undef, .undef, .undef, .undef, .undef, .undef, .undef], []⟩) (contA cx Sp2d n [1, 1, 0, 1, 0] ak17 (bodyC Tryz.f17) (endK cx Tryz.f17 0 K))
theorem L17_0_step (n m0 : Nat) (name_0 : List UInt8) (best_5 : List UInt8) (ls_14 : List (List UInt8)) (n_15 : Int) (found_6 : Bool) (n_16 : Int) (K : AVal → List (List AVal) → Option Res) : L17_0 n  (m0 + 1) name_0 best_5 ls_14 n_15 found_6 n_16 K =
    (match decide (n_16 < n_15) with | true => (match idx ls_14 n_16 with | some s1 => (match s1 == name_0 with | true => (match !found_6 with | true => L17_0 n  m0 name_0 s1 ls_14 n_15 true (IntKind.wrap .i64 (n_16 + (1 : Int))) K | false => (match decide ((best_5.length : Int) < (s1.length : Int)) with | true => L17_0 n  m0 name_0 s1 ls_14 n_15 true (IntKind.wrap .i64 (n_16 + (1 : Int))) K | false => L17_0 n  m0 name_0 best_5 ls_14 n_15 found_6 (IntKind.wrap .i64 (n_16 + (1 : Int))) K)) | false => gd (decide (([46] : List UInt8).length + s1.length ≤ LIM)) (gd (decide (name_0.length ≤ BIG) && decide ((([46] : List UInt8) ++ s1).length ≤ BIG)) ((match endsW name_0 (([46] : List UInt8) ++ s1) with | true => (match !found_6 with | true => L17_0 n  m0 name_0 s1 ls_14 n_15 true (IntKind.wrap .i64 (n_16 + (1 : Int))) K | false => (match decide ((best_5.length : Int) < (s1.length : Int)) with | true => L17_0 n  m0 name_0 s1 ls_14 n_15 true (IntKind.wrap .i64 (n_16 + (1 : Int))) K | false => L17_0 n  m0 name_0 best_5 ls_14 n_15 found_6 (IntKind.wrap .i64 (n_16 + (1 : Int))) K)) | false => L17_0 n  m0 name_0 best_5 ls_14 n_15 found_6 (IntKind.wrap .i64 (n_16 + (1 : Int))) K)))) | none => none) | false => K (.str best_5) []) := by kernel_rfl
theorem run17 (n : Nat) (m : List UInt8) (l : List (List UInt8)) (K : AVal → List (List AVal) → Option Res) : funA cx Sp2d n ak17 Tryz.f17 [.str m, .strs false l] [] K =
    gd (decide (m.length ≤ BIG)) (gd (decide (0 ≤ IntKind.wrap .i64 ((lastB (46 : Int) m) + (1 : Int)) ∧ IntKind.wrap .i64 ((lastB (46 : Int) m) + (1 : Int)) ≤ (m.length : Int) ∧ (m.length : Int) ≤ (m.length : Int))) (L17_0 n  n m (cut m ((IntKind.wrap .i64 ((lastB (46 : Int) m) + (1 : Int))).toNat) m.length) l (l.length : Int) false (0 : Int) K)) := by kernel_rfl
/-- sprref7.Suffix -/
noncomputable def ak18 : AC := (.seq (.reg []) (.seq (.reg [[], [], [1]]) (.seq (.reg [[6], [6]]) (.seq (.reg []) (.seq (.seq (.reg []) (.block (.loopk [0, 1, 6, 7, 8] (.seq (.seq (.reg [[], [6]]) (.cond .skip .exit)) (.seq (.block (.seq (.reg [[6]]) (.seq (.reg []) (.seq (.reg []) (.cond (.reg []) .skip))))) (.reg [])))))) (.seq (.seq (.reg []) (.cond (.seq (.reg []) .ret) .skip)) (.seq (.reg []) .ret)))))))
noncomputable def la18_0 : AC := match navA [1, 1, 1, 1, 0, 1, 0] (ak18) with | .loopk _ a => a | a => a
noncomputable def lc18_0 : Code := match navC [1, 1, 1, 1, 0, 1, 0] (bodyC Tryz.f18) with | .loop a => a | a => a
noncomputable def L18_0 (n m0 : Nat) (name_0 : List UInt8) (suffixes_1 : List (List UInt8)) (best_6 : List UInt8) (found_7 : List UInt8) (i_8 : Int) (K : AVal → List (List AVal) → Option Res) : Option Res := lpA cx Sp2d n [0, 1, 6, 7, 8] la18_0 lc18_0 m0 (⟨[.str name_0, .strs false suffixes_1, .undef, .undef, .undef, .undef, .str best_6, .str found_7, .int .i64 i_8, .undef, .undef, .undef, .undef, .undef, .undef, .undef, .undef, .undef, .undef, .undef, .undef, .undef, .undef, .undef, .undef, .undef, .undef, .undef, .undef, .undef, .undef, .undef, .undef, .undef, .undef, .undef, .undef, .undef, .undef, .undef, .undef, .undef, .undef, .undef, .undef, .undef, .undef, .undef, .undef, .undef, .undef, .undef, .undef, .undef, .undef, .undef, .undef, .undef, .undef, .undef, .undef, .undef, .undef, .undef, .undef, .undef, .undef, .undef, .undef, .undef, .undef, .undef, .undef, .undef], []⟩) (contA cx Sp2d n [1, 1, 1, 1, 0, 1, 0] ak18 (bodyC Tryz.f18) (endK cx Tryz.f18 0 K))
theorem L18_0_step (n m0 : Nat) (name_0 : List UInt8) (suffixes_1 : List (List UInt8)) (best_6 : List UInt8) (found_7 : List UInt8) (i_8 : Int) (K : AVal → List (List AVal) → Option Res) : L18_0 n  (m0 + 1) name_0 suffixes_1 best_6 found_7 i_8 K =
    (match decide (i_8 < (suffixes_1.length : Int)) with | true => (match idx suffixes_1 i_8 with | some s1 => (match s1 == name_0 with | true => (match decide ((found_7.length : Int) < (s1.length : Int)) with | true => L18_0 n  m0 name_0 suffixes_1 best_6 s1 (IntKind.wrap .i64 (i_8 + (1 : Int))) K | false => L18_0 n  m0 name_0 suffixes_1 best_6 found_7 (IntKind.wrap .i64 (i_8 + (1 : Int))) K) | false => (match decide ((s1.length : Int) < (name_0.length : Int)) with | true => gd (decide (0 ≤ IntKind.wrap .i64 ((name_0.length : Int) - (s1.length : Int)) ∧ IntKind.wrap .i64 ((name_0.length : Int) - (s1.length : Int)) ≤ (name_0.length : Int) ∧ (name_0.length : Int) ≤ (name_0.length : Int))) ((match (cut name_0 ((IntKind.wrap .i64 ((name_0.length : Int) - (s1.length : Int))).toNat) name_0.length) == s1 with | true => (match idx name_0 (IntKind.wrap .i64 ((IntKind.wrap .i64 ((name_0.length : Int) - (s1.length : Int))) - (1 : Int))) with | some c2 => (match (ofB c2) == (46 : Int) with | true => (match decide ((found_7.length : Int) < (s1.length : Int)) with | true => L18_0 n  m0 name_0 suffixes_1 best_6 s1 (IntKind.wrap .i64 (i_8 + (1 : Int))) K | false => L18_0 n  m0 name_0 suffixes_1 best_6 found_7 (IntKind.wrap .i64 (i_8 + (1 : Int))) K) | false => L18_0 n  m0 name_0 suffixes_1 best_6 found_7 (IntKind.wrap .i64 (i_8 + (1 : Int))) K) | none => none) | false => L18_0 n  m0 name_0 suffixes_1 best_6 found_7 (IntKind.wrap .i64 (i_8 + (1 : Int))) K)) | false => L18_0 n  m0 name_0 suffixes_1 best_6 found_7 (IntKind.wrap .i64 (i_8 + (1 : Int))) K)) | none => none) | false => (match !(found_7 == ([] : List UInt8)) with | true => K (.str found_7) [] | false => K (.str best_6) [])) := by kernel_rfl
theorem run18 (n : Nat) (m : List UInt8) (l : List (List UInt8)) (K : AVal → List (List AVal) → Option Res) : funA cx Sp2d n ak18 Tryz.f18 [.str m, .strs false l] [] K =
    gd (decide (m.length ≤ BIG)) (gd (decide (0 ≤ IntKind.wrap .i64 (((splitB (46 : Int) m).length : Int) - (1 : Int)) ∧ (IntKind.wrap .i64 (((splitB (46 : Int) m).length : Int) - (1 : Int))).toNat < (splitB (46 : Int) m).length)) ((match (splitB (46 : Int) m)[(IntKind.wrap .i64 (((splitB (46 : Int) m).length : Int) - (1 : Int))).toNat]? with | some s1 => L18_0 n  n m l s1 ([] : List UInt8) (0 : Int) K | none => none))) := by kernel_rfl
/-- site.SameOrigin -/
noncomputable def ak19 : AC := (.seq (.reg [[1], [1]]) (.seq (.reg [[2], [2]]) (.seq (.reg [[2], [2]]) (.seq (.reg []) .ret))))
theorem run19 (n : Nat) (a : URLV) (b : URLV) (K : AVal → List (List AVal) → Option Res) : funA cx Sp2d n ak19 Tryz.f19 [.agg [.str a.sc, .str a.us, .str a.pw, .bool a.hh, .int .i64 a.h.k, .str a.h.n, .int .u32 a.h.f, .int .u16 a.h.p0, .int .u16 a.h.p1, .int .u16 a.h.p2, .int .u16 a.h.p3, .int .u16 a.h.p4, .int .u16 a.h.p5, .int .u16 a.h.p6, .int .u16 a.h.p7, .int .i64 a.po, .bool a.dk, .str a.tx, .strs false a.pa, .bool a.hq, .str a.qu, .bool a.hf, .str a.fr], .agg [.str b.sc, .str b.us, .str b.pw, .bool b.hh, .int .i64 b.h.k, .str b.h.n, .int .u32 b.h.f, .int .u16 b.h.p0, .int .u16 b.h.p1, .int .u16 b.h.p2, .int .u16 b.h.p3, .int .u16 b.h.p4, .int .u16 b.h.p5, .int .u16 b.h.p6, .int .u16 b.h.p7, .int .i64 b.po, .bool b.dk, .str b.tx, .strs false b.pa, .bool b.hq, .str b.qu, .bool b.hf, .str b.fr]] [] K =
    (match spOrigOk a with | true => (match spOrigOk b with | true => K (.bool ((((spOrig a).sc) == ((spOrig b).sc)) && ((((spOrig a).h.k) == ((spOrig b).h.k)) && ((((spOrig a).h.n) == ((spOrig b).h.n)) && ((((spOrig a).h.f) == ((spOrig b).h.f)) && ((((spOrig a).h.p0) == ((spOrig b).h.p0)) && ((((spOrig a).h.p1) == ((spOrig b).h.p1)) && ((((spOrig a).h.p2) == ((spOrig b).h.p2)) && ((((spOrig a).h.p3) == ((spOrig b).h.p3)) && ((((spOrig a).h.p4) == ((spOrig b).h.p4)) && ((((spOrig a).h.p5) == ((spOrig b).h.p5)) && ((((spOrig a).h.p6) == ((spOrig b).h.p6)) && ((((spOrig a).h.p7) == ((spOrig b).h.p7)) && ((((spOrig a).po) == ((spOrig b).po)) && true)))))))))))))) [] | false => K (.bool false) []) | false => K (.bool false) []) := by kernel_rfl
/-- sprref7.SameOrigin -/
noncomputable def ak20 : AC := (.seq (.reg [[1], [1]]) (.seq (.reg [[2], [2]]) (.seq (.reg [[2], [2]]) (.seq (.reg []) .ret))))
theorem run20 (n : Nat) (a : URLV) (b : URLV) (K : AVal → List (List AVal) → Option Res) : funA cx Sp2d n ak20 Tryz.f20 [.agg [.str a.sc, .str a.us, .str a.pw, .bool a.hh, .int .i64 a.h.k, .str a.h.n, .int .u32 a.h.f, .int .u16 a.h.p0, .int .u16 a.h.p1, .int .u16 a.h.p2, .int .u16 a.h.p3, .int .u16 a.h.p4, .int .u16 a.h.p5, .int .u16 a.h.p6, .int .u16 a.h.p7, .int .i64 a.po, .bool a.dk, .str a.tx, .strs false a.pa, .bool a.hq, .str a.qu, .bool a.hf, .str a.fr], .agg [.str b.sc, .str b.us, .str b.pw, .bool b.hh, .int .i64 b.h.k, .str b.h.n, .int .u32 b.h.f, .int .u16 b.h.p0, .int .u16 b.h.p1, .int .u16 b.h.p2, .int .u16 b.h.p3, .int .u16 b.h.p4, .int .u16 b.h.p5, .int .u16 b.h.p6, .int .u16 b.h.p7, .int .i64 b.po, .bool b.dk, .str b.tx, .strs false b.pa, .bool b.hq, .str b.qu, .bool b.hf, .str b.fr]] [] K =
    (match spOrigOk a with | true => (match spOrigOk b with | true => K (.bool (origEq (spOrig a) (spOrig b))) [] | false => K (.bool false) []) | false => K (.bool false) []) := by kernel_rfl
/-- sprref7.piece -/
noncomputable def ak83 : AC := (.seq (.reg []) (.seq (.reg [[], [], [], [], [], [], [2]]) (.seq (.block (.loopk [3] (.seq (.seq (.reg []) (.cond .skip .exit)) (.block (.reg []))))) (.seq (.reg []) .ret))))
noncomputable def la83_0 : AC := match navA [1, 1, 0, 0] (ak83) with | .loopk _ a => a | a => a
noncomputable def lc83_0 : Code := match navC [1, 1, 0, 0] (bodyC Tryz.f83) with | .loop a => a | a => a
noncomputable def L83_0 (n m0 : Nat) (s_3 : List UInt8) (K : AVal → List (List AVal) → Option Res) : Option Res := lpA cx Sp2d n [3] la83_0 lc83_0 m0 (⟨[.undef, .undef, .undef, .str s_3, .undef, .undef, .undef, .undef, .undef, .undef, .undef, .undef, .undef, .undef, .undef, .undef, .undef, .undef, .undef, .undef, .undef, .undef], []⟩) (contA cx Sp2d n [1, 1, 0, 0] ak83 (bodyC Tryz.f83) (endK cx Tryz.f83 0 K))
theorem L83_0_step (n m0 : Nat) (s_3 : List UInt8) (K : AVal → List (List AVal) → Option Res) : L83_0 n  (m0 + 1) s_3 K =
    (match decide ((1 : Int) < (s_3.length : Int)) with | true => (match idx s_3 (0 : Int) with | some c1 => (match (ofB c1) == (48 : Int) with | true => gd (decide (0 ≤ (1 : Int) ∧ (1 : Int) ≤ (s_3.length : Int) ∧ (s_3.length : Int) ≤ (s_3.length : Int))) (L83_0 n  m0 (cut s_3 1 s_3.length) K) | false => K (.str s_3) []) | none => none) | false => K (.str s_3) []) := by kernel_rfl
theorem run83 (n : Nat) (x : Int) (K : AVal → List (List AVal) → Option Res) : funA cx Sp2d n ak83 Tryz.f83 [.int .u16 x] [] K =
    gd (isBytes ([IntKind.wrap .u8 (shr2 .u16 x (8 : Int)), IntKind.wrap .u8 (x)] : List Int) && decide (([IntKind.wrap .u8 (shr2 .u16 x (8 : Int)), IntKind.wrap .u8 (x)] : List Int).length ≤ BIG)) (L83_0 n  n (spHex ([IntKind.wrap .u8 (shr2 .u16 x (8 : Int)), IntKind.wrap .u8 (x)] : List Int)) K) := by kernel_rfl
/-- sprref7.Print4 -/
noncomputable def ak49 : AC := (.seq (.reg []) (.seq (.reg []) .ret))
theorem run49 (n : Nat) (x : Int) (K : AVal → List (List AVal) → Option Res) : funA cx Sp2d n ak49 Tryz.f49 [.int .u32 x] [] K =
    gd (inI64 (IntKind.wrap .i64 (shr2 .u32 x (24 : Int))) && (decide ((IntKind.wrap .i64 (shr2 .u32 x (24 : Int))).natAbs < 10 ^ 20) && decide (1 ≤ 20))) (gd (decide ((decL (IntKind.wrap .i64 (shr2 .u32 x (24 : Int)))).length + ([46] : List UInt8).length ≤ LIM)) (gd (inI64 (IntKind.wrap .i64 (bits2 .and .u32 (shr2 .u32 x (16 : Int)) (255 : Int))) && (decide ((IntKind.wrap .i64 (bits2 .and .u32 (shr2 .u32 x (16 : Int)) (255 : Int))).natAbs < 10 ^ 20) && decide (1 ≤ 20))) (gd (decide (((decL (IntKind.wrap .i64 (shr2 .u32 x (24 : Int)))) ++ ([46] : List UInt8)).length + (decL (IntKind.wrap .i64 (bits2 .and .u32 (shr2 .u32 x (16 : Int)) (255 : Int)))).length ≤ LIM)) (gd (decide ((((decL (IntKind.wrap .i64 (shr2 .u32 x (24 : Int)))) ++ ([46] : List UInt8)) ++ (decL (IntKind.wrap .i64 (bits2 .and .u32 (shr2 .u32 x (16 : Int)) (255 : Int))))).length + ([46] : List UInt8).length ≤ LIM)) (gd (inI64 (IntKind.wrap .i64 (bits2 .and .u32 (shr2 .u32 x (8 : Int)) (255 : Int))) && (decide ((IntKind.wrap .i64 (bits2 .and .u32 (shr2 .u32 x (8 : Int)) (255 : Int))).natAbs < 10 ^ 20) && decide (1 ≤ 20))) (gd (decide (((((decL (IntKind.wrap .i64 (shr2 .u32 x (24 : Int)))) ++ ([46] : List UInt8)) ++ (decL (IntKind.wrap .i64 (bits2 .and .u32 (shr2 .u32 x (16 : Int)) (255 : Int))))) ++ ([46] : List UInt8)).length + (decL (IntKind.wrap .i64 (bits2 .and .u32 (shr2 .u32 x (8 : Int)) (255 : Int)))).length ≤ LIM)) (gd (decide ((((((decL (IntKind.wrap .i64 (shr2 .u32 x (24 : Int)))) ++ ([46] : List UInt8)) ++ (decL (IntKind.wrap .i64 (bits2 .and .u32 (shr2 .u32 x (16 : Int)) (255 : Int))))) ++ ([46] : List UInt8)) ++ (decL (IntKind.wrap .i64 (bits2 .and .u32 (shr2 .u32 x (8 : Int)) (255 : Int))))).length + ([46] : List UInt8).length ≤ LIM)) (gd (inI64 (IntKind.wrap .i64 (bits2 .and .u32 x (255 : Int))) && (decide ((IntKind.wrap .i64 (bits2 .and .u32 x (255 : Int))).natAbs < 10 ^ 20) && decide (1 ≤ 20))) (gd (decide (((((((decL (IntKind.wrap .i64 (shr2 .u32 x (24 : Int)))) ++ ([46] : List UInt8)) ++ (decL (IntKind.wrap .i64 (bits2 .and .u32 (shr2 .u32 x (16 : Int)) (255 : Int))))) ++ ([46] : List UInt8)) ++ (decL (IntKind.wrap .i64 (bits2 .and .u32 (shr2 .u32 x (8 : Int)) (255 : Int))))) ++ ([46] : List UInt8)).length + (decL (IntKind.wrap .i64 (bits2 .and .u32 x (255 : Int)))).length ≤ LIM)) (K (.str (((((((decL (IntKind.wrap .i64 (shr2 .u32 x (24 : Int)))) ++ ([46] : List UInt8)) ++ (decL (IntKind.wrap .i64 (bits2 .and .u32 (shr2 .u32 x (16 : Int)) (255 : Int))))) ++ ([46] : List UInt8)) ++ (decL (IntKind.wrap .i64 (bits2 .and .u32 (shr2 .u32 x (8 : Int)) (255 : Int))))) ++ ([46] : List UInt8)) ++ (decL (IntKind.wrap .i64 (bits2 .and .u32 x (255 : Int)))))) [])))))))))) := by kernel_rfl

end Go.Proofs.YtognccpmaljamaaGreatDoor.Sa

/- Laws of the third layer's functions. -/
namespace Go.Proofs.YtognccpmaljamaaGreatDoor.Sa
open Go

theorem law152 (hg : true = true) : ∃ n, ∀ K, funA cx Sp2d n ak152 Tryz.f152 [.int .u64 16] [] K = K (.int .i64 4) [] := ⟨0, fun K => run152 0 K⟩

theorem cut_end {α : Type} (l : List α) (i : Nat) : cut l i l.length = l.drop i := by
  unfold cut
  rw [List.take_of_length_le]
  simp

theorem shorts_at {l : List (List UInt8)} (h : shorts l = true) {i : Nat} (hi : i < l.length) : l[i].length + 1 ≤ BIG := by
  unfold shorts at h
  rw [List.all_eq_true] at h
  exact of_decide_eq_true (h l[i] (List.getElem_mem hi))

theorem loop17 (n : Nat) (m : List UInt8) (l : List (List UInt8)) (hm : m.length ≤ BIG) (hl : l.length ≤ BIG) (hs : shorts l = true) (K : AVal → List (List AVal) → Option Res) : ∀ (d f i : Nat) (best : List UInt8) (found : Bool), i + d = l.length → d < f →
    L17_0 n f m best l (l.length : Int) found (i : Int) K = K (.str (suffF m (l.drop i) best found)) []
  | 0, f, i, best, found, h, hf => by
    obtain ⟨f, rfl⟩ : ∃ k, f = k + 1 := ⟨f - 1, by omega⟩
    rw [L17_0_step]
    have : ¬ ((i : Int) < (l.length : Int)) := by omega
    simp only [this, decide_false]
    rw [List.drop_of_length_le (by omega)]
    rfl
  | d + 1, f, i, best, found, h, hf => by
    obtain ⟨f, rfl⟩ : ∃ k, f = k + 1 := ⟨f - 1, by omega⟩
    have hi : i < l.length := by omega
    have h1 : (i : Int) < (l.length : Int) := by omega
    have hsi := shorts_at hs hi
    have hl' := hl
    rw [BIG_eq] at hl'
    rw [L17_0_step]
    simp only [h1, decide_true]
    rw [idx_at (by omega) (by simpa using hi)]
    simp only [Int.toNat_natCast]
    rw [List.drop_eq_getElem_cons hi, suffF, wrap64_id (x := (i : Int) + 1) (by omega) (by omega)]
    have ei : ((i : Int) + 1) = ((i + 1 : Nat) : Int) := by omega
    rw [ei, loop17 n m l hm hl hs K d f (i + 1) _ _ (by omega) (by omega), loop17 n m l hm hl hs K d f (i + 1) _ _ (by omega) (by omega)]
    have hlt : decide ((best.length : Int) < (l[i].length : Int)) = decide (best.length < l[i].length) := by congr 1; apply propext; omega
    rw [gd_dec (by rw [LIM_eq]; rw [BIG_eq] at hsi; simp only [List.length_cons, List.length_nil]; omega), gd_true (by rw [Bool.and_eq_true]; exact ⟨decide_eq_true hm, decide_eq_true (by simp only [List.length_append, List.length_cons, List.length_nil]; omega)⟩), hlt]
    unfold isSuf
    rw [show ([46] : List UInt8) ++ l[i] = 46 :: l[i] from rfl]
    cases l[i] == m <;> cases endsW m (46 :: l[i]) <;> cases found <;> cases decide (best.length < l[i].length) <;> rfl

theorem law17 (m : List UInt8) (l : List (List UInt8)) (hg : (decide (m.length ≤ BIG) && (decide (l.length ≤ BIG) && shorts l)) = true) : ∃ n, ∀ K, funA cx Sp2d n ak17 Tryz.f17 [.str m, .strs false l] [] K = K (.str (suffP m l)) [] := by
  rw [Bool.and_eq_true, Bool.and_eq_true] at hg
  have hm := of_decide_eq_true hg.1
  have hl := of_decide_eq_true hg.2.1
  refine ⟨l.length + 1, fun K => ?_⟩
  have hm' := hm
  rw [BIG_eq] at hm'
  have lo := lastB_lo 46 m
  rw [run17, gd_true hg.1, wrap64_id (by omega) (by omega), gd_dec ⟨by omega, by omega, by omega⟩, cut_end]
  exact loop17 _ m l hm hl hg.2.2 K l.length _ 0 _ _ (by omega) (by omega)

/-! ### the reference's -/
theorem endsW_dot (m s : List UInt8) : endsW m (46 :: s) = (decide (s.length < m.length) && (m.drop (m.length - s.length) == s && (ofB (m.getD (m.length - s.length - 1) 0) == 46))) := by
  unfold endsW
  by_cases h : s.length < m.length
  · have h' : (46 :: s).length ≤ m.length := by simp; omega
    rw [decide_eq_true h, decide_eq_true h', Bool.true_and, Bool.true_and]
    have hk : m.length - (46 :: s).length < m.length := by simp; omega
    rw [List.drop_eq_getElem_cons hk]
    have e1 : m.length - (46 :: s).length + 1 = m.length - s.length := by simp; omega
    have e2 : m.length - (46 :: s).length = m.length - s.length - 1 := by simp; omega
    rw [e1]
    have e3 : m.getD (m.length - s.length - 1) 0 = m[m.length - (46 :: s).length] := by
      rw [getD_at (by omega)]
      simp only [e2]
    rw [e3]
    have e4 : (ofB m[m.length - (46 :: s).length] == 46) = (m[m.length - (46 :: s).length] == 46) := by
      generalize m[m.length - (46 :: s).length] = c
      rw [Bool.eq_iff_iff, beq_iff_eq, beq_iff_eq]
      unfold ofB
      constructor
      · intro e
        apply UInt8.toNat_inj.1
        have : c.toNat = 46 := by omega
        rw [this]; rfl
      · rintro rfl; rfl
    rw [e4, Bool.and_comm]
    rfl
  · have h' : ¬ (46 :: s).length ≤ m.length := by simp; omega
    rw [decide_eq_false h, decide_eq_false h', Bool.false_and, Bool.false_and]

/-- What the program and the reference hold, beside each other. -/
def SufR (L best : List UInt8) (found : Bool) (fr : List UInt8) : Prop := (found = false → best = L ∧ fr = []) ∧ (found = true → fr = best ∧ (fr = [] → L = []))

theorem endsW_nil_lab (m : List UInt8) (h : isSuf m [] = true) : lastLab m = [] := by
  unfold isSuf at h
  rw [Bool.or_eq_true] at h
  rcases h with h | h
  · have : m = [] := by have := beq_iff_eq.1 h; exact this.symm
    rw [this]; rfl
  · rw [endsW_dot] at h
    simp only [Bool.and_eq_true, decide_eq_true_eq] at h
    obtain ⟨h1, _, h3⟩ := h
    simp only [List.length_nil] at h1 h3
    -- the last sign is a dot
    have hl : m = m.dropLast ++ [m.getD (m.length - 1) 0] := by
      rw [getD_at (by omega)]
      have hne : m ≠ [] := by intro e; rw [e] at h1; simp at h1
      rw [← List.getLast_eq_getElem hne, List.dropLast_concat_getLast hne]
    unfold lastLab
    have : lastB 46 m = (m.length : Int) - 1 := by
      rw [hl, lastB_snoc]
      simp only [Nat.sub_zero] at h3
      rw [h3]
      simp only [if_true, List.length_append, List.length_cons, List.length_nil]
      omega
    rw [this]
    rw [List.drop_of_length_le (by omega)]

theorem loop18 (n : Nat) (m : List UInt8) (l : List (List UInt8)) (hm : m.length ≤ BIG) (hl : l.length ≤ BIG) (hs : shorts l = true) (K : AVal → List (List AVal) → Option Res) : ∀ (d f i : Nat) (best fr : List UInt8) (found : Bool), i + d = l.length → d < f → SufR (lastLab m) best found fr →
    L18_0 n f m l (lastLab m) fr (i : Int) K = K (.str (suffF m (l.drop i) best found)) []
  | 0, f, i, best, fr, found, h, hf, hR => by
    obtain ⟨f, rfl⟩ : ∃ k, f = k + 1 := ⟨f - 1, by omega⟩
    rw [L18_0_step]
    have : ¬ ((i : Int) < (l.length : Int)) := by omega
    simp only [this, decide_false]
    rw [List.drop_of_length_le (by omega), suffF]
    cases found with
    | false =>
      obtain ⟨e1, e2⟩ := hR.1 rfl
      rw [e1, e2]
      rfl
    | true =>
      obtain ⟨e1, e2⟩ := hR.2 rfl
      cases hfr : (fr == ([] : List UInt8))
      · simp only [Bool.not_false]; rw [e1]
      · simp only [Bool.not_true]
        have : fr = [] := beq_iff_eq.1 hfr
        rw [e2 this, ← e1, this]
  | d + 1, f, i, best, fr, found, h, hf, hR => by
    obtain ⟨f, rfl⟩ : ∃ k, f = k + 1 := ⟨f - 1, by omega⟩
    have hi : i < l.length := by omega
    have h1 : (i : Int) < (l.length : Int) := by omega
    have hsi := shorts_at hs hi
    have hl' := hl
    have hm' := hm
    rw [BIG_eq] at hl' hm' hsi
    rw [L18_0_step]
    simp only [h1, decide_true]
    rw [idx_at (by omega) (by simpa using hi)]
    simp only [Int.toNat_natCast]
    rw [List.drop_eq_getElem_cons hi, suffF, wrap64_id (x := (i : Int) + 1) (by omega) (by omega)]
    have ei : ((i : Int) + 1) = ((i + 1 : Nat) : Int) := by omega
    rw [ei]
    -- s is one of the suffixes
    have take : isSuf m l[i] = true → (match decide ((fr.length : Int) < (l[i].length : Int)) with
        | true => L18_0 n f m l (lastLab m) l[i] ((i + 1 : Nat) : Int) K
        | false => L18_0 n f m l (lastLab m) fr ((i + 1 : Nat) : Int) K) = K (.str (match isSuf m l[i] && (!found || decide (best.length < l[i].length)) with
        | true => suffF m (l.drop (i + 1)) l[i] true
        | false => suffF m (l.drop (i + 1)) best found)) [] := by
      intro his
      rw [his, Bool.true_and]
      cases hfo : found with
      | false =>
        subst hfo
        obtain ⟨e1, e2⟩ := hR.1 rfl
        subst e2
        simp only [Bool.not_false, Bool.true_or]
        by_cases hz : l[i] = []
        · have : ¬ ((([] : List UInt8).length : Int) < (l[i].length : Int)) := by rw [hz]; simp
          simp only [this, decide_false]
          refine loop18 n m l hm hl hs K d f (i + 1) l[i] [] true (by omega) (by omega) ⟨fun h => (by cases h), fun _ => ⟨hz.symm, fun _ => endsW_nil_lab m (by rw [← hz]; exact his)⟩⟩
        · have hpos : 0 < l[i].length := List.length_pos_iff.2 hz
          have : ((([] : List UInt8).length : Int) < (l[i].length : Int)) := by simp; omega
          simp only [this, decide_true]
          exact loop18 n m l hm hl hs K d f (i + 1) l[i] l[i] true (by omega) (by omega) ⟨fun h => (by cases h), fun _ => ⟨rfl, fun e => absurd e hz⟩⟩
      | true =>
        subst hfo
        obtain ⟨e1, e2⟩ := hR.2 rfl
        subst e1
        simp only [Bool.not_true, Bool.false_or]
        have hlt : decide ((fr.length : Int) < (l[i].length : Int)) = decide (fr.length < l[i].length) := by congr 1; apply propext; omega
        rw [hlt]
        by_cases hc : fr.length < l[i].length
        · simp only [hc, decide_true]
          exact loop18 n m l hm hl hs K d f (i + 1) l[i] l[i] true (by omega) (by omega) ⟨fun h => (by cases h), fun _ => ⟨rfl, fun e => by rw [e] at hc; simp at hc⟩⟩
        · simp only [hc, decide_false]
          exact loop18 n m l hm hl hs K d f (i + 1) fr fr true (by omega) (by omega) ⟨fun h => (by cases h), fun _ => ⟨rfl, e2⟩⟩
    have leave : isSuf m l[i] = false → L18_0 n f m l (lastLab m) fr ((i + 1 : Nat) : Int) K = K (.str (match isSuf m l[i] && (!found || decide (best.length < l[i].length)) with
        | true => suffF m (l.drop (i + 1)) l[i] true
        | false => suffF m (l.drop (i + 1)) best found)) [] := by
      intro his
      rw [his, Bool.false_and]
      exact loop18 n m l hm hl hs K d f (i + 1) best fr found (by omega) (by omega) hR
    cases hsm : (l[i] == m)
    · have hisE : isSuf m l[i] = endsW m (46 :: l[i]) := by unfold isSuf; rw [hsm, Bool.false_or]
      rw [endsW_dot] at hisE
      simp only
      by_cases hc : l[i].length < m.length
      · have hc' : ((l[i].length : Int) < (m.length : Int)) := by omega
        simp only [hc', decide_true]
        have w1 : IntKind.wrap .i64 ((m.length : Int) - (l[i].length : Int)) = (m.length : Int) - (l[i].length : Int) := wrap64_id (by omega) (by omega)
        have w2 : IntKind.wrap .i64 ((m.length : Int) - (l[i].length : Int) - 1) = (m.length : Int) - (l[i].length : Int) - 1 := wrap64_id (by omega) (by omega)
        simp only [w1, w2]
        rw [gd_dec ⟨by omega, by omega, by first | trivial | omega⟩]
        have e1 : ((m.length : Int) - (l[i].length : Int)).toNat = m.length - l[i].length := by omega
        rw [e1, cut_end]
        rw [decide_eq_true hc, Bool.true_and] at hisE
        cases hd : (m.drop (m.length - l[i].length) == l[i])
        · rw [hd, Bool.false_and] at hisE
          exact leave hisE
        · rw [hd, Bool.true_and] at hisE
          simp only
          have e2 : ((m.length : Int) - (l[i].length : Int) - 1).toNat = m.length - l[i].length - 1 := by omega
          rw [idx_at (by omega) (by omega)]
          simp only [e2]
          rw [← getD_at (by omega : m.length - l[i].length - 1 < m.length)]
          cases hq : (ofB (m.getD (m.length - l[i].length - 1) 0) == 46)
          · rw [hq] at hisE
            exact leave hisE
          · rw [hq] at hisE
            exact take hisE
      · have hc' : ¬ ((l[i].length : Int) < (m.length : Int)) := by omega
        simp only [hc', decide_false]
        rw [decide_eq_false hc, Bool.false_and] at hisE
        exact leave hisE
    · have his : isSuf m l[i] = true := by unfold isSuf; rw [hsm, Bool.true_or]
      exact take his

theorem law18 (m : List UInt8) (l : List (List UInt8)) (hg : (decide (m.length ≤ BIG) && (decide (l.length ≤ BIG) && shorts l)) = true) : ∃ n, ∀ K, funA cx Sp2d n ak18 Tryz.f18 [.str m, .strs false l] [] K = K (.str (suffP m l)) [] := by
  rw [Bool.and_eq_true, Bool.and_eq_true] at hg
  have hm := of_decide_eq_true hg.1
  have hl := of_decide_eq_true hg.2.1
  refine ⟨l.length + 1, fun K => ?_⟩
  have hm' := hm
  rw [BIG_eq] at hm'
  obtain ⟨o, ho, hol⟩ := splitB_last 46 m
  have hlen : (splitB 46 m).length = o.length + 1 := by rw [ho]; simp
  rw [run18, gd_true hg.1, wrap64_id (by omega) (by omega), gd_dec ⟨by omega, by omega⟩]
  have e : (((splitB 46 m).length : Int) - 1).toNat = o.length := by omega
  rw [e, ho, List.getElem?_append_right (by omega)]
  simp only [Nat.sub_self, List.getElem?_cons_zero]
  rw [cut_end]
  exact loop18 _ m l hm hl hg.2.2 K l.length _ 0 _ _ _ (by omega) (by omega) ⟨fun _ => ⟨rfl, rfl⟩, fun h => by cases h⟩

/-! ### the same origin -/
theorem law19 (a b : URLV) (hg : true = true) : ∃ n, ∀ K, funA cx Sp2d n ak19 Tryz.f19 [.agg (urlC a), .agg (urlC b)] [] K = K (.bool (spOrigOk a && (spOrigOk b && origEq (spOrig a) (spOrig b)))) [] := by
  refine ⟨0, fun K => ?_⟩
  rw [run19]
  cases spOrigOk a
  · rfl
  · cases spOrigOk b
    · rfl
    · simp only [Bool.true_and]
      congr 2
      simp only [origEq, hostEq, Bool.and_true, Bool.and_assoc]

theorem law20 (a b : URLV) (hg : true = true) : ∃ n, ∀ K, funA cx Sp2d n ak20 Tryz.f20 [.agg (urlC a), .agg (urlC b)] [] K = K (.bool (spOrigOk a && (spOrigOk b && origEq (spOrig a) (spOrig b)))) [] := by
  refine ⟨0, fun K => ?_⟩
  rw [run20]
  cases spOrigOk a
  · rfl
  · cases spOrigOk b <;> rfl

/-! ### pieces -/
theorem hd16_0 {a : Int} (h0 : 0 ≤ a) (h1 : a < 16) : (ofB (hd16 a) == 48) = (a == 0) := by
  obtain ⟨n, rfl⟩ : ∃ n : Nat, a = n := ⟨a.toNat, by omega⟩
  have hn : n < 16 := by omega
  have : ∀ n : Fin 16, (ofB (hd16 ((n : Nat) : Int)) == 48) = (((n : Nat) : Int) == 0) := by decide
  exact this ⟨n, hn⟩

theorem strip83 (n f : Nat) (a : Int) (s : List UInt8) (h0 : 0 ≤ a) (h1 : a < 16) (hs : s ≠ []) (hl : s.length ≤ 10) (K : AVal → List (List AVal) → Option Res) : L83_0 n (f + 1) (hd16 a :: s) K = if a = 0 then L83_0 n f s K else K (.str (hd16 a :: s)) [] := by
  have hp : 0 < s.length := List.length_pos_iff.2 hs
  rw [L83_0_step]
  have h2 : ((1 : Int) < ((hd16 a :: s).length : Int)) := by simp only [List.length_cons]; omega
  simp only [h2, decide_true]
  rw [idx_at (by omega) (by simp)]
  simp only [Int.toNat_zero, List.getElem_cons_zero]
  rw [hd16_0 h0 h1]
  by_cases ha : a = 0
  · rw [if_pos ha]
    have : (a == 0) = true := beq_iff_eq.2 ha
    simp only [this]
    rw [gd_dec ⟨by omega, by omega, by first | trivial | omega⟩, cut_end]
    rfl
  · rw [if_neg ha]
    have : (a == 0) = false := beq_eq_false_iff_ne.2 ha
    simp only [this]

theorem last83 (n f : Nat) (a : Int) (K : AVal → List (List AVal) → Option Res) : L83_0 n (f + 1) [hd16 a] K = K (.str [hd16 a]) [] := by
  rw [L83_0_step]
  have h2 : ¬ ((1 : Int) < (([hd16 a] : List UInt8).length : Int)) := by simp
  simp only [h2, decide_false]

theorem law83 (x : Int) (hg : isU16 x = true) : ∃ n, ∀ K, funA cx Sp2d n ak83 Tryz.f83 [.int .u16 x] [] K = K (.str (hex16 x)) [] := by
  unfold isU16 at hg
  rw [Bool.and_eq_true] at hg
  have h0 := of_decide_eq_true hg.1
  have h1 := of_decide_eq_true hg.2
  refine ⟨4, fun K => ?_⟩
  rw [run83]
  have e1 : shr2 .u16 x 8 = x / 256 := by
    show x.fdiv (2 ^ (min (8 : Int).toNat 16)) = _
    rw [Int.fdiv_eq_ediv_of_nonneg _ (by decide)]; rfl
  have w1 : IntKind.wrap .u8 (x / 256) = x / 256 := by
    unfold IntKind.wrap
    simp [IntKind.bits, IntKind.signed]
    omega
  have w2 : IntKind.wrap .u8 x = x % 256 := by
    unfold IntKind.wrap
    simp [IntKind.bits, IntKind.signed]
  rw [e1, w1, w2, gd_true (by
    rw [Bool.and_eq_true]
    refine ⟨?_, decide_eq_true (by rw [BIG_eq]; simp)⟩
    simp only [isBytes, List.all_cons, List.all_nil, Bool.and_true, Bool.and_eq_true, decide_eq_true_eq]
    omega)]
  have e : spHex [x / 256, x % 256] = [hd16 (x / 4096), hd16 (x / 256 % 16), hd16 (x / 16 % 16), hd16 (x % 16)] := by
    simp only [spHex, List.flatMap_cons, List.flatMap_nil, List.cons_append, List.nil_append]
    rw [show x / 256 / 16 = x / 4096 by omega, show x % 256 / 16 = x / 16 % 16 by omega, show x % 256 % 16 = x % 16 by omega]
  rw [e, strip83 4 3 _ _ (by omega) (by omega) (by simp) (by simp), strip83 4 2 _ _ (by omega) (by omega) (by simp) (by simp), strip83 4 1 _ _ (by omega) (by omega) (by simp) (by simp), last83]
  unfold hex16
  by_cases c1 : x < 16
  · rw [if_pos (by omega), if_pos (by omega), if_pos (by omega), if_pos c1, Int.emod_eq_of_lt h0 c1]
  · rw [if_neg c1]
    by_cases c2 : x < 256
    · rw [if_pos (by omega), if_pos (by omega), if_neg (by omega), if_pos c2, show x / 16 % 16 = x / 16 by omega]
    · rw [if_neg c2]
      by_cases c3 : x < 4096
      · rw [if_pos (by omega), if_neg (by omega), if_pos c3, show x / 256 % 16 = x / 256 by omega]
      · rw [if_neg (by omega), if_neg c3]

/-! ### four numbers -/
theorem and255 {x : Int} (h0 : 0 ≤ x) (h1 : x < 4294967296) : bits2 .and .u32 x 255 = x % 256 := by
  obtain ⟨n, rfl⟩ : ∃ n : Nat, x = n := ⟨x.toNat, by omega⟩
  have hn : n < 2 ^ 32 := by omega
  have e : ((BitVec.ofInt 32 (n : Int)) &&& (BitVec.ofInt 32 255)).toNat = n % 256 := by
    rw [BitVec.toNat_and]
    have a1 : (BitVec.ofInt 32 (n : Int)).toNat = n := by
      rw [BitVec.toNat_ofInt]
      have : ((n : Int) % ((2 ^ 32 : Nat) : Int)).toNat = n % 2 ^ 32 := by
        rw [← Int.natCast_emod, Int.toNat_natCast]
      rw [this, Nat.mod_eq_of_lt hn]
    have a2 : (BitVec.ofInt 32 255).toNat = 255 := by rfl
    rw [a1, a2]
    exact Nat.and_two_pow_sub_one_eq_mod n 8
  have hb : bits2 .and .u32 (n : Int) 255 = IntKind.wrap .u32 (((BitVec.ofInt 32 (n : Int)) &&& (BitVec.ofInt 32 255)).toNat : Int) := rfl
  rw [hb, e]
  unfold IntKind.wrap
  simp [IntKind.bits, IntKind.signed]
  omega

theorem shr32 (x : Int) : shr2 .u32 x 24 = x / 16777216 ∧ shr2 .u32 x 16 = x / 65536 ∧ shr2 .u32 x 8 = x / 256 ∧ shr2 .u32 x 0 = x := by
  refine ⟨?_, ?_, ?_, ?_⟩
  · show x.fdiv (2 ^ (min (24 : Int).toNat 32)) = _
    rw [Int.fdiv_eq_ediv_of_nonneg _ (by decide)]; rfl
  · show x.fdiv (2 ^ (min (16 : Int).toNat 32)) = _
    rw [Int.fdiv_eq_ediv_of_nonneg _ (by decide)]; rfl
  · show x.fdiv (2 ^ (min (8 : Int).toNat 32)) = _
    rw [Int.fdiv_eq_ediv_of_nonneg _ (by decide)]; rfl
  · show x.fdiv (2 ^ (min (0 : Int).toNat 32)) = _
    rw [Int.fdiv_eq_ediv_of_nonneg _ (by decide)]
    exact Int.ediv_one x

theorem decG {y : Int} (h0 : -9223372036854775808 ≤ y) (h1 : y ≤ 9223372036854775807) : (inI64 y && (decide (y.natAbs < 10 ^ 20) && decide (1 ≤ 20))) = true := by
  rw [inI64_of h0 h1, Bool.true_and, Bool.and_eq_true]
  exact ⟨decide_eq_true (by omega), rfl⟩

theorem law49 (x : Int) (hg : inU32 x = true) : ∃ n, ∀ K, funA cx Sp2d n ak49 Tryz.f49 [.int .u32 x] [] K = K (.str (spFour x)) [] := by
  unfold inU32 at hg
  rw [Bool.and_eq_true] at hg
  have h0 := of_decide_eq_true hg.1
  have h1 := of_decide_eq_true hg.2
  refine ⟨0, fun K => ?_⟩
  obtain ⟨s1, s2, s3, s4⟩ := shr32 x
  have a1 : bits2 .and .u32 (x / 16777216) 255 = x / 16777216 := by rw [and255 (by omega) (by omega)]; omega
  rw [run49]
  unfold spFour
  rw [s1, s2, s3, s4, a1, and255 (x := x / 65536) (by omega) (by omega), and255 (x := x / 256) (by omega) (by omega), and255 (x := x) h0 h1]
  rw [wrap64_id (x := x / 16777216) (by omega) (by omega), wrap64_id (x := x / 65536 % 256) (by omega) (by omega), wrap64_id (x := x / 256 % 256) (by omega) (by omega), wrap64_id (x := x % 256) (by omega) (by omega)]
  have l1 := decL_len (x / 16777216)
  have l2 := decL_len (x / 65536 % 256)
  have l3 := decL_len (x / 256 % 256)
  have l4 := decL_len (x % 256)
  have g1 := decG (y := x / 16777216) (by omega) (by omega)
  have g2 := decG (y := x / 65536 % 256) (by omega) (by omega)
  have g3 := decG (y := x / 256 % 256) (by omega) (by omega)
  have g4 := decG (y := x % 256) (by omega) (by omega)
  generalize hb1 : decL (x / 16777216) = b1 at *
  generalize hb2 : decL (x / 65536 % 256) = b2 at *
  generalize hb3 : decL (x / 256 % 256) = b3 at *
  generalize hb4 : decL (x % 256) = b4 at *
  rw [gd_true g1, gd_dec (by rw [LIM_eq]; simp only [List.length_cons, List.length_nil]; omega), gd_true g2]
  rw [gd_dec (by rw [LIM_eq]; simp only [List.length_append, List.length_cons, List.length_nil]; omega)]
  rw [gd_dec (by rw [LIM_eq]; simp only [List.length_append, List.length_cons, List.length_nil]; omega), gd_true g3]
  rw [gd_dec (by rw [LIM_eq]; simp only [List.length_append, List.length_cons, List.length_nil]; omega)]
  rw [gd_dec (by rw [LIM_eq]; simp only [List.length_append, List.length_cons, List.length_nil]; omega), gd_true g4]
  rw [gd_dec (by rw [LIM_eq]; simp only [List.length_append, List.length_cons, List.length_nil]; omega)]
  simp only [joinL, List.append_assoc]

end Go.Proofs.YtognccpmaljamaaGreatDoor.Sa

/- Contracts, printed by wip/sym.py. -/
namespace Go.Proofs.YtognccpmaljamaaGreatDoor.Sa
open Go

noncomputable def e152 : Ans := fun args h K => match args, h with
  | [.int .u64 x], [] => gd ((x == (16 : Int)) && true) (K (.int .i64 (4 : Int)) [])
  | _, _ => none
theorem ok152 : AnsOK Tryz.prog 152 e152 := ans_of_fun hT hE mixed hO2d Tryz.func152 (by kernel_rfl) fun args h K r hr => by
  unfold e152 at hr
  split at hr
  · obtain ⟨hg, hq⟩ := gd_some hr
    simp only [Bool.and_eq_true, beq_iff_eq] at hg
    obtain ⟨hc_x, hg⟩ := hg
    subst hc_x
    obtain ⟨n, hn⟩ := law152  (by simpa using hg)
    exact ⟨n, by rw [hn]; exact hq⟩
  · cases hr
noncomputable def e17 : Ans := fun args h K => match args, h with
  | [.str m, .strs false l], [] => gd (decide (m.length ≤ BIG) && (decide (l.length ≤ BIG) && shorts l)) (K (.str (suffP m l)) [])
  | _, _ => none
theorem ok17 : AnsOK Tryz.prog 17 e17 := ans_of_fun hT hE mixed hO2d Tryz.func17 (by kernel_rfl) fun args h K r hr => by
  unfold e17 at hr
  split at hr
  · obtain ⟨hg, hq⟩ := gd_some hr
    obtain ⟨n, hn⟩ := law17 _ _ hg
    exact ⟨n, by rw [hn]; exact hq⟩
  · cases hr
noncomputable def e18 : Ans := fun args h K => match args, h with
  | [.str m, .strs false l], [] => gd (decide (m.length ≤ BIG) && (decide (l.length ≤ BIG) && shorts l)) (K (.str (suffP m l)) [])
  | _, _ => none
theorem ok18 : AnsOK Tryz.prog 18 e18 := ans_of_fun hT hE mixed hO2d Tryz.func18 (by kernel_rfl) fun args h K r hr => by
  unfold e18 at hr
  split at hr
  · obtain ⟨hg, hq⟩ := gd_some hr
    obtain ⟨n, hn⟩ := law18 _ _ hg
    exact ⟨n, by rw [hn]; exact hq⟩
  · cases hr
noncomputable def e19 : Ans := fun args h K => match args, h with
  | [.agg cs_a, .agg cs_b], [] => (match rdURL cs_a with | some a => (match rdURL cs_b with | some b => gd (true) (K (.bool (spOrigOk a && (spOrigOk b && origEq (spOrig a) (spOrig b)))) []) | none => none) | none => none)
  | _, _ => none
theorem ok19 : AnsOK Tryz.prog 19 e19 := ans_of_fun hT hE mixed hO2d Tryz.func19 (by kernel_rfl) fun args h K r hr => by
  unfold e19 at hr
  split at hr
  · split at hr
    · rename_i u_a hu_a
      have hu_a := rdURL_eq hu_a
      subst hu_a
      split at hr
      · rename_i u_b hu_b
        have hu_b := rdURL_eq hu_b
        subst hu_b
        obtain ⟨hg, hq⟩ := gd_some hr
        obtain ⟨n, hn⟩ := law19 _ _ hg
        exact ⟨n, by rw [hn]; exact hq⟩
      · cases hr
    · cases hr
  · cases hr
noncomputable def e20 : Ans := fun args h K => match args, h with
  | [.agg cs_a, .agg cs_b], [] => (match rdURL cs_a with | some a => (match rdURL cs_b with | some b => gd (true) (K (.bool (spOrigOk a && (spOrigOk b && origEq (spOrig a) (spOrig b)))) []) | none => none) | none => none)
  | _, _ => none
theorem ok20 : AnsOK Tryz.prog 20 e20 := ans_of_fun hT hE mixed hO2d Tryz.func20 (by kernel_rfl) fun args h K r hr => by
  unfold e20 at hr
  split at hr
  · split at hr
    · rename_i u_a hu_a
      have hu_a := rdURL_eq hu_a
      subst hu_a
      split at hr
      · rename_i u_b hu_b
        have hu_b := rdURL_eq hu_b
        subst hu_b
        obtain ⟨hg, hq⟩ := gd_some hr
        obtain ⟨n, hn⟩ := law20 _ _ hg
        exact ⟨n, by rw [hn]; exact hq⟩
      · cases hr
    · cases hr
  · cases hr
noncomputable def e83 : Ans := fun args h K => match args, h with
  | [.int .u16 x], [] => gd (isU16 x) (K (.str (hex16 x)) [])
  | _, _ => none
theorem ok83 : AnsOK Tryz.prog 83 e83 := ans_of_fun hT hE mixed hO2d Tryz.func83 (by kernel_rfl) fun args h K r hr => by
  unfold e83 at hr
  split at hr
  · obtain ⟨hg, hq⟩ := gd_some hr
    obtain ⟨n, hn⟩ := law83 _ hg
    exact ⟨n, by rw [hn]; exact hq⟩
  · cases hr
noncomputable def e49 : Ans := fun args h K => match args, h with
  | [.int .u32 x], [] => gd (inU32 x) (K (.str (spFour x)) [])
  | _, _ => none
theorem ok49 : AnsOK Tryz.prog 49 e49 := ans_of_fun hT hE mixed hO2d Tryz.func49 (by kernel_rfl) fun args h K r hr => by
  unfold e49 at hr
  split at hr
  · obtain ⟨hg, hq⟩ := gd_some hr
    obtain ⟨n, hn⟩ := law49 _ hg
    exact ⟨n, by rw [hn]; exact hq⟩
  · cases hr
noncomputable def Sp3 : Oracle := ext 49 e49 (ext 83 e83 (ext 20 e20 (ext 19 e19 (ext 18 e18 (ext 17 e17 (ext 152 e152 (Sp2d)))))))
theorem hO3 : OracleOK Tryz.prog Sp3 := ext_ok ok49 (ext_ok ok83 (ext_ok ok20 (ext_ok ok19 (ext_ok ok18 (ext_ok ok17 (ext_ok ok152 (hO2d)))))))

end Go.Proofs.YtognccpmaljamaaGreatDoor.Sa
