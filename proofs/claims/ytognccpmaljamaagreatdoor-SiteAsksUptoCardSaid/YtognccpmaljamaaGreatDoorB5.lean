/- SiteAsks answers true for every input whose arguments hold together at most 1048576 values and letters, and leaves its arguments as they were; the listed package-level tables hold what the program's text lays. -/
import Derived.Test.YtognccpmaljamaaGreatDoorB3
import Derived.Test.YtognccpmaljamaaGreatDoorB0
import Derived.Shelf.LaysM
import Derived.Shelf.Strings.OnBuilder
import Derived.Shelf.Strconv.Itoa3
import Derived.Test.YtognccpmaljamaaGreatDoorProg
import Derived.Test.YtognccpmaljamaaGreatDoorB4
import Derived.Lib.Bytealg
import Derived.Laws.Externs
import Derived.WalkSmall
import Derived.Sort.Grow
set_option linter.unusedVariables false
set_option linter.unusedSimpArgs false
set_option linter.unusedSectionVars false
set_option linter.unnecessarySimpa false
set_option linter.constructorNameAsVariable false
set_option maxRecDepth 100000
/- Values of the program's structs; words for what functions answer (no program in sight). -/
namespace Go.Proofs.YtognccpmaljamaaGreatDoor.Sa
open Go

structure HostV where
  k : Int
  n : List UInt8
  f : Int
  p0 : Int
  p1 : Int
  p2 : Int
  p3 : Int
  p4 : Int
  p5 : Int
  p6 : Int
  p7 : Int

structure URLV where
  sc : List UInt8
  us : List UInt8
  pw : List UInt8
  hh : Bool
  h : HostV
  po : Int
  dk : Bool
  tx : List UInt8
  pa : List (List UInt8)
  hq : Bool
  qu : List UInt8
  hf : Bool
  fr : List UInt8

structure OrigV where
  sc : List UInt8
  h : HostV
  po : Int

abbrev hostC (h : HostV) : List AVal := [.int .i64 h.k, .str h.n, .int .u32 h.f, .int .u16 h.p0, .int .u16 h.p1, .int .u16 h.p2, .int .u16 h.p3, .int .u16 h.p4, .int .u16 h.p5, .int .u16 h.p6, .int .u16 h.p7]
abbrev urlC (u : URLV) : List AVal := [.str u.sc, .str u.us, .str u.pw, .bool u.hh, .int .i64 u.h.k, .str u.h.n, .int .u32 u.h.f, .int .u16 u.h.p0, .int .u16 u.h.p1, .int .u16 u.h.p2, .int .u16 u.h.p3, .int .u16 u.h.p4, .int .u16 u.h.p5, .int .u16 u.h.p6, .int .u16 u.h.p7,
  .int .i64 u.po, .bool u.dk, .str u.tx, .strs false u.pa, .bool u.hq, .str u.qu, .bool u.hf, .str u.fr]
abbrev origC (o : OrigV) : List AVal := [.str o.sc, .int .i64 o.h.k, .str o.h.n, .int .u32 o.h.f, .int .u16 o.h.p0, .int .u16 o.h.p1, .int .u16 o.h.p2, .int .u16 o.h.p3, .int .u16 o.h.p4, .int .u16 o.h.p5, .int .u16 o.h.p6, .int .u16 o.h.p7, .int .i64 o.po]

noncomputable def rdHost : List AVal → Option HostV
  | [.int .i64 k, .str n, .int .u32 f, .int .u16 p0, .int .u16 p1, .int .u16 p2, .int .u16 p3, .int .u16 p4, .int .u16 p5, .int .u16 p6, .int .u16 p7] => some ⟨k, n, f, p0, p1, p2, p3, p4, p5, p6, p7⟩
  | _ => none
noncomputable def rdOrig : List AVal → Option OrigV
  | .str sc :: .int .i64 k :: .str n :: .int .u32 f :: .int .u16 p0 :: .int .u16 p1 :: .int .u16 p2 :: .int .u16 p3 :: .int .u16 p4 :: .int .u16 p5 :: .int .u16 p6 :: .int .u16 p7 :: r => match r with
    | [.int .i64 po] => some ⟨sc, ⟨k, n, f, p0, p1, p2, p3, p4, p5, p6, p7⟩, po⟩
    | _ => none
  | _ => none
noncomputable def rdURL : List AVal → Option URLV
  | .str sc :: .str us :: .str pw :: .bool hh :: .int .i64 k :: .str n :: .int .u32 f :: .int .u16 p0 :: .int .u16 p1 :: .int .u16 p2 :: .int .u16 p3 :: .int .u16 p4 :: .int .u16 p5 :: .int .u16 p6 :: .int .u16 p7 :: r => match r with
    | [.int .i64 po, .bool dk, .str tx, .strs false pa, .bool hq, .str qu, .bool hf, .str fr] => some ⟨sc, us, pw, hh, ⟨k, n, f, p0, p1, p2, p3, p4, p5, p6, p7⟩, po, dk, tx, pa, hq, qu, hf, fr⟩
    | _ => none
  | _ => none
noncomputable def rdSix : List AVal → Option (List Int)
  | [.int .u16 p0, .int .u16 p1, .int .u16 p2, .int .u16 p3, .int .u16 p4, .int .u16 p5, .int .u16 p6, .int .u16 p7] => some [p0, p1, p2, p3, p4, p5, p6, p7]
  | _ => none

theorem rdHost_eq {cs : List AVal} {h : HostV} (e : rdHost cs = some h) : cs = hostC h := by
  unfold rdHost at e
  split at e
  · cases e; rfl
  · cases e
theorem rdOrig_eq {cs : List AVal} {h : OrigV} (e : rdOrig cs = some h) : cs = origC h := by
  unfold rdOrig at e
  split at e
  · split at e
    · cases e; rfl
    · cases e
  · cases e
theorem rdURL_eq {cs : List AVal} {h : URLV} (e : rdURL cs = some h) : cs = urlC h := by
  unfold rdURL at e
  split at e
  · split at e
    · cases e; rfl
    · cases e
  · cases e
theorem rdSix_eq {cs : List AVal} {l : List Int} (e : rdSix cs = some l) : ∃ p0 p1 p2 p3 p4 p5 p6 p7, l = [p0, p1, p2, p3, p4, p5, p6, p7] ∧ cs = [.int .u16 p0, .int .u16 p1, .int .u16 p2, .int .u16 p3, .int .u16 p4, .int .u16 p5, .int .u16 p6, .int .u16 p7] := by
  unfold rdSix at e
  split at e
  · cases e; exact ⟨_, _, _, _, _, _, _, _, rfl, rfl⟩
  · cases e

/-- The greatest length that is spoken of. -/
noncomputable def BIG : Nat := 1073741824

/-! ### whole numbers -/
theorem wrap64_id {x : Int} (h0 : -9223372036854775808 ≤ x) (h1 : x ≤ 9223372036854775807) : IntKind.wrap .i64 x = x := by
  unfold IntKind.wrap
  simp [IntKind.bits, IntKind.signed]
  omega

/-! ### what functions answer -/
noncomputable def spSpecial (a : List UInt8) : Int :=
  (match a == ([104, 116, 116, 112] : List UInt8) with | true => 80 | false => (match a == ([119, 115] : List UInt8) with | true => 80 | false => (match a == ([104, 116, 116, 112, 115] : List UInt8) with | true => 443 | false => (match a == ([119, 115, 115] : List UInt8) with | true => 443 | false => (match a == ([102, 116, 112] : List UInt8) with | true => 21 | false => 0)))))

/-- The place of the last c; -1: there is none. -/
noncomputable def lastB (c : Int) : List UInt8 → Int
  | [] => -1
  | b :: s => if 0 ≤ lastB c s then lastB c s + 1 else if ofB b == c then 0 else -1

/-- Is t the end of s? -/
noncomputable def endsW (s t : List UInt8) : Bool := decide (t.length ≤ s.length) && (s.drop (s.length - t.length) == t)

/-- s by the signs c: d signs are to come, from i on; the piece under way begins at f. -/
noncomputable def splitG (c : Int) (s : List UInt8) : Nat → Nat → Nat → List (List UInt8) → List (List UInt8)
  | 0, i, f, out => out ++ [cut s f i]
  | d + 1, i, f, out => match ofB (s.getD i 0) == c with
    | true => splitG c s d (i + 1) (i + 1) (out ++ [cut s f i])
    | false => splitG c s d (i + 1) f out
noncomputable def splitB (c : Int) (s : List UInt8) : List (List UInt8) := splitG c s s.length 0 0 []

/-- Few texts, none of them long. -/
noncomputable def spfew (l : List (List UInt8)) : Bool := (l.take 100).all (fun s => decide (s.length ≤ 300)) && decide (l.length ≤ 100)

noncomputable def hostEq (a b : HostV) : Bool := a.k == b.k && (a.n == b.n && (a.f == b.f && (a.p0 == b.p0 && (a.p1 == b.p1 && (a.p2 == b.p2 && (a.p3 == b.p3 && (a.p4 == b.p4 && (a.p5 == b.p5 && (a.p6 == b.p6 && a.p7 == b.p7)))))))))

noncomputable def fewN : List (List UInt8) → Int → Int
  | [], n => n
  | p :: ps, n => fewN ps (if (80000 : Int) < (IntKind.wrap .i64 (n + (if (20000 : Int) < (p.length : Int) then (20000 : Int) else (p.length : Int)))) then (80000 : Int) else IntKind.wrap .i64 (n + (if (20000 : Int) < (p.length : Int) then (20000 : Int) else (p.length : Int))))

/-- Is an address short? -/
noncomputable def spFew (u : URLV) : Bool := decide ((u.pa.length : Int) ≤ 300) && decide (fewN (u.pa.take 300) (IntKind.wrap .i64 ((IntKind.wrap .i64 ((IntKind.wrap .i64 ((IntKind.wrap .i64 ((IntKind.wrap .i64 ((IntKind.wrap .i64 ((u.sc.length : Int) + (u.us.length : Int))) + (u.pw.length : Int))) + (u.h.n.length : Int))) + (u.tx.length : Int))) + (u.qu.length : Int))) + (u.fr.length : Int))) ≤ 20000)

/-- Four numbers. -/
noncomputable def spFour (x : Int) : List UInt8 := joinL ([46] : List UInt8) ([decL (IntKind.wrap .i64 (bits2 .and .u32 (shr2 .u32 x (24 : Int)) (255 : Int))), decL (IntKind.wrap .i64 (bits2 .and .u32 (shr2 .u32 x (16 : Int)) (255 : Int))), decL (IntKind.wrap .i64 (bits2 .and .u32 (shr2 .u32 x (8 : Int)) (255 : Int))), decL (IntKind.wrap .i64 (bits2 .and .u32 (shr2 .u32 x (0 : Int)) (255 : Int)))] : List (List UInt8))

noncomputable def spOrigOk (u : URLV) : Bool := !(spSpecial u.sc == 0) && u.hh
noncomputable def zeroOrig : OrigV := ⟨[], ⟨0, [], 0, 0, 0, 0, 0, 0, 0, 0, 0⟩, 0⟩
noncomputable def spOrig (u : URLV) : OrigV := match spOrigOk u with
  | true => ⟨u.sc, u.h, match u.po == -1 with | true => spSpecial u.sc | false => u.po⟩
  | false => zeroOrig
noncomputable def origEq (a b : OrigV) : Bool := a.sc == b.sc && (hostEq a.h b.h && a.po == b.po)

/-- The first longest run of 0: where it begins, how many. -/
noncomputable def zerosF : List Int → Int → Int → Int → Int → Int × Int
  | [], _, at_, most, _ => (at_, most)
  | x :: l, i, at_, most, n => match x == 0 with
    | true => (match decide (most < n + 1) with
      | true => zerosF l (i + 1) (i + 1 - (n + 1)) (n + 1) (n + 1)
      | false => zerosF l (i + 1) at_ most (n + 1))
    | false => zerosF l (i + 1) at_ most 0
noncomputable def zat (p0 p1 p2 p3 p4 p5 p6 p7 : Int) : Int := (zerosF [p0, p1, p2, p3, p4, p5, p6, p7] 0 0 0 0).1
noncomputable def zmost (p0 p1 p2 p3 p4 p5 p6 p7 : Int) : Int := (zerosF [p0, p1, p2, p3, p4, p5, p6, p7] 0 0 0 0).2

/-- A digit of 16. -/
noncomputable def hd16 (n : Int) : UInt8 := ([48, 49, 50, 51, 52, 53, 54, 55, 56, 57, 97, 98, 99, 100, 101, 102] : List UInt8).getD n.toNat 0
noncomputable def spHex (b : List Int) : List UInt8 := b.flatMap fun x => [hd16 (x / 16), hd16 (x % 16)]
noncomputable def isBytes (b : List Int) : Bool := b.all fun x => decide (0 ≤ x) && decide (x < 256)
/-- A piece in digits of 16. -/
noncomputable def hex16 (n : Int) : List UInt8 :=
  if n < 16 then [hd16 n] else if n < 256 then [hd16 (n / 16), hd16 (n % 16)] else if n < 4096 then [hd16 (n / 256), hd16 (n / 16 % 16), hd16 (n % 16)]
  else [hd16 (n / 4096), hd16 (n / 256 % 16), hd16 (n / 16 % 16), hd16 (n % 16)]
noncomputable def isU16 (n : Int) : Bool := decide (0 ≤ n) && decide (n < 65536)
noncomputable def spText (l : List Int) : List UInt8 := joinL [58] (l.map hex16)

noncomputable def inI64 (n : Int) : Bool := decide (-9223372036854775808 ≤ n) && decide (n ≤ 9223372036854775807)
noncomputable def inU32 (n : Int) : Bool := decide (0 ≤ n) && decide (n < 4294967296)

noncomputable def isSuf (m s : List UInt8) : Bool := s == m || endsW m (46 :: s)
noncomputable def suffF (m : List UInt8) : List (List UInt8) → List UInt8 → Bool → List UInt8
  | [], best, _ => best
  | s :: l, best, found => match isSuf m s && (!found || decide (best.length < s.length)) with
    | true => suffF m l s true
    | false => suffF m l best found
noncomputable def lastLab (m : List UInt8) : List UInt8 := m.drop (lastB 46 m + 1).toNat
noncomputable def suffP (m : List UInt8) (l : List (List UInt8)) : List UInt8 := suffF m l (lastLab m) false
noncomputable def shorts (l : List (List UInt8)) : Bool := l.all fun s => decide (s.length + 1 ≤ BIG)

/-- A name's part that is registered. -/
noncomputable def regP (m : List UInt8) (l : List (List UInt8)) : List UInt8 := match (suffP m l).length == m.length with
  | true => m
  | false => m.drop (lastB 46 (m.take (m.length - (suffP m l).length - 1)) + 1).toNat
noncomputable def spSite (u : URLV) (l : List (List UInt8)) : OrigV := match spOrigOk u with
  | false => spOrig u
  | true => ⟨(spOrig u).sc, ⟨(spOrig u).h.k, match (spOrig u).h.k == 1 with | true => regP (spOrig u).h.n l | false => (spOrig u).h.n, (spOrig u).h.f, (spOrig u).h.p0, (spOrig u).h.p1, (spOrig u).h.p2, (spOrig u).h.p3, (spOrig u).h.p4, (spOrig u).h.p5, (spOrig u).h.p6, (spOrig u).h.p7⟩, 0⟩

/-- Eight pieces as a text. -/
noncomputable def six6 (p0 p1 p2 p3 p4 p5 p6 p7 : Int) : List UInt8 :=
  if zmost p0 p1 p2 p3 p4 p5 p6 p7 < 2 then spText [p0, p1, p2, p3, p4, p5, p6, p7]
  else spText (([p0, p1, p2, p3, p4, p5, p6, p7] : List Int).take (zat p0 p1 p2 p3 p4 p5 p6 p7).toNat) ++ [58, 58] ++ spText (([p0, p1, p2, p3, p4, p5, p6, p7] : List Int).drop (zat p0 p1 p2 p3 p4 p5 p6 p7 + zmost p0 p1 p2 p3 p4 p5 p6 p7).toNat)

end Go.Proofs.YtognccpmaljamaaGreatDoor.Sa

namespace Go.Proofs.YtognccpmaljamaaGreatDoor.Sa
open Go.Shelf
def Tryz.lays156_ren : Go.Shelf.Ren := ⟨fun | 156 => 61 | 165 => 97 | 166 => 98 | 169 => 99 | 240 => 145 | 241 => 146 | 276 => 170 | 277 => 171 | n => n, fun | 31 => 27 | 9 => 9 | 3 => 3 | 4 => 4 | 0 => 0 | 20 => 20 | 72 => 107 | 76 => 110 | 70 => 105 | 37 => 65 | 75 => 109 | 127 => 137 | 164 => 152 | 5 => 5 | 80 => 112 | n => n, fun | n => n⟩
theorem Tryz.lays156 : Go.Proofs.Lays.n156 Tryz.prog Tryz.lays156_ren := {
  mixed := by kernel_rfl
  f156 := Tryz.func61.trans (congrArg some (by kernel_rfl))
  f165 := Tryz.func97.trans (congrArg some (by kernel_rfl))
  f166 := Tryz.func98.trans (congrArg some (by kernel_rfl))
  f169 := Tryz.func99.trans (congrArg some (by kernel_rfl))
  f240 := Tryz.func145.trans (congrArg some (by kernel_rfl))
  f241 := Tryz.func146.trans (congrArg some (by kernel_rfl))
  f276 := Tryz.func170.trans (congrArg some (by kernel_rfl))
  f277 := Tryz.func171.trans (congrArg some (by kernel_rfl))
  t0 := Tryz.underlying0
  a0 := Tryz.isAgg0
  z0 := Tryz.sizeOf0
  v0 := Tryz.zeroValue0
  t3 := Tryz.underlying3
  a3 := Tryz.isAgg3
  z3 := Tryz.sizeOf3
  v3 := Tryz.zeroValue3
  t4 := Tryz.underlying4
  a4 := Tryz.isAgg4
  z4 := Tryz.sizeOf4
  v4 := Tryz.zeroValue4
  t9 := Tryz.underlying9
  a9 := Tryz.isAgg9
  z9 := Tryz.sizeOf9
  v9 := Tryz.zeroValue9
  t20 := Tryz.underlying20
  a20 := Tryz.isAgg20
  z20 := Tryz.sizeOf20
  v20 := Tryz.zeroValue20
  t31 := Tryz.underlying27
  a31 := Tryz.isAgg27
  z31 := Tryz.sizeOf27
  v31 := Tryz.zeroValue27
  t37 := Tryz.underlying65
  a37 := Tryz.isAgg65
  z37 := Tryz.sizeOf65
  v37 := Tryz.zeroValue65
  t70 := Tryz.underlying105
  a70 := Tryz.isAgg105
  z70 := Tryz.sizeOf105
  v70 := Tryz.zeroValue105
  t72 := Tryz.underlying107
  a72 := Tryz.isAgg107
  z72 := Tryz.sizeOf107
  v72 := Tryz.zeroValue107
  t75 := Tryz.underlying109
  a75 := Tryz.isAgg109
  z75 := Tryz.sizeOf109
  v75 := Tryz.zeroValue109
  t76 := Tryz.underlying110
  a76 := Tryz.isAgg110
  z76 := Tryz.sizeOf110
  v76 := Tryz.zeroValue110
  t127 := Tryz.underlying137
  a127 := Tryz.isAgg137
  z127 := Tryz.sizeOf137
  v127 := Tryz.zeroValue137
  t164 := Tryz.underlying152
  a164 := Tryz.isAgg152
  z164 := Tryz.sizeOf152
  v164 := Tryz.zeroValue152 }
theorem Tryz.Builder_Extra_156 : Builder.Extra Tryz.prog Tryz.lays156_ren := {
  sizeBuilder := by kernel_rfl
  liesBuilder := by kernel_rfl
  t5 := Tryz.underlying5
  a5 := Tryz.isAgg5
  z5 := Tryz.sizeOf5
  v5 := Tryz.zeroValue5
  infoByte := by kernel_rfl
  cellsByte := by kernel_rfl
  sizeByte := by kernel_rfl
  neB5 := by decide }
open Go.RowKit in

theorem Tryz.strings_Join_none (a : Option Addr) (c : Nat) (sep : ByteArray) (w : World) :
    Calls Tryz.prog 61 #[.slice a 0 c, .string sep] w fun e w' => e = .returned (.string ⟨#[]⟩) ∧ w' = w := Any.strings_Join_none Tryz.lays156 Tryz.Builder_Extra_156 a c sep w
open Go.RowKit in

theorem Tryz.strings_Join (bk o c : Nat) (xs : List ByteArray) (sep : ByteArray) (w : World) (hcells : ∀ (j : Nat) x, xs[j]? = some x → w.cell? ⟨bk, o + j, none⟩ = some (.string x)) (hbk : bk < w.heap.size) (hN : xs.length ≤ 140737488355328) (hcap : xs.length ≤ c) (hlen : (Lib.join (xs.map (·.data.toList)) sep.data.toList).length ≤ 140737488355328) :
    Calls Tryz.prog 61 #[.slice (some ⟨bk, o, none⟩) xs.length c, .string sep] w fun e w' => e = .returned (.string ⟨(Lib.join (xs.map (·.data.toList)) sep.data.toList).toArray⟩) ∧ Below w.heap.size w w' := Any.strings_Join Tryz.lays156 Tryz.Builder_Extra_156 bk o c xs sep w hcells hbk hN hcap hlen
def Tryz.laysM171_ren : Go.Shelf.Ren := ⟨fun | 171 => 26 | 243 => 43 | 246 => 64 | 283 => 101 | 284 => 102 | 285 => 103 | 286 => 104 | 129 => 149 | 317 => 148 | 318 => 150 | 319 => 151 | 320 => 152 | 337 => 172 | 338 => 173 | n => n, fun | 3 => 3 | 9 => 9 | 2 => 2 | 4 => 4 | 171 => 115 | 0 => 0 | 53 => 114 | 37 => 65 | 5 => 5 | 173 => 118 | 212 => 139 | 51 => 22 | 20 => 20 | 213 => 140 | 46 => 78 | 232 => 162 | 233 => 163 | n => n, fun | 17 => 1 | 18 => 2 | 19 => 3 | n => n⟩
theorem Tryz.laysM171 : Go.Proofs.LaysM.n171 Tryz.prog Tryz.laysM171_ren := {
  mixed := by kernel_rfl
  f129 := Tryz.func149.trans (congrArg some (by kernel_rfl))
  f171 := Tryz.func26.trans (congrArg some (by kernel_rfl))
  f243 := Tryz.func43.trans (congrArg some (by kernel_rfl))
  f246 := Tryz.func64.trans (congrArg some (by kernel_rfl))
  f283 := Tryz.func101.trans (congrArg some (by kernel_rfl))
  f284 := Tryz.func102.trans (congrArg some (by kernel_rfl))
  f285 := Tryz.func103.trans (congrArg some (by kernel_rfl))
  f286 := Tryz.func104.trans (congrArg some (by kernel_rfl))
  f317 := Tryz.func148.trans (congrArg some (by kernel_rfl))
  f318 := Tryz.func150.trans (congrArg some (by kernel_rfl))
  f319 := Tryz.func151.trans (congrArg some (by kernel_rfl))
  f320 := Tryz.func152.trans (congrArg some (by kernel_rfl))
  f337 := Tryz.func172.trans (congrArg some (by kernel_rfl))
  f338 := Tryz.func173.trans (congrArg some (by kernel_rfl))
  t0 := Tryz.underlying0
  a0 := Tryz.isAgg0
  z0 := Tryz.sizeOf0
  v0 := Tryz.zeroValue0
  t2 := Tryz.underlying2
  a2 := Tryz.isAgg2
  z2 := Tryz.sizeOf2
  v2 := Tryz.zeroValue2
  t3 := Tryz.underlying3
  a3 := Tryz.isAgg3
  z3 := Tryz.sizeOf3
  v3 := Tryz.zeroValue3
  t4 := Tryz.underlying4
  a4 := Tryz.isAgg4
  z4 := Tryz.sizeOf4
  v4 := Tryz.zeroValue4
  t5 := Tryz.underlying5
  a5 := Tryz.isAgg5
  z5 := Tryz.sizeOf5
  v5 := Tryz.zeroValue5
  t9 := Tryz.underlying9
  a9 := Tryz.isAgg9
  z9 := Tryz.sizeOf9
  v9 := Tryz.zeroValue9
  t20 := Tryz.underlying20
  a20 := Tryz.isAgg20
  z20 := Tryz.sizeOf20
  v20 := Tryz.zeroValue20
  t37 := Tryz.underlying65
  a37 := Tryz.isAgg65
  z37 := Tryz.sizeOf65
  v37 := Tryz.zeroValue65
  t46 := Tryz.underlying78
  a46 := Tryz.isAgg78
  z46 := Tryz.sizeOf78
  v46 := Tryz.zeroValue78
  t51 := Tryz.underlying22
  a51 := Tryz.isAgg22
  z51 := Tryz.sizeOf22
  v51 := Tryz.zeroValue22
  t53 := Tryz.underlying114
  a53 := Tryz.isAgg114
  z53 := Tryz.sizeOf114
  v53 := Tryz.zeroValue114
  t171 := Tryz.underlying115
  a171 := Tryz.isAgg115
  z171 := Tryz.sizeOf115
  v171 := Tryz.zeroValue115
  t173 := Tryz.underlying118
  a173 := Tryz.isAgg118
  z173 := Tryz.sizeOf118
  v173 := Tryz.zeroValue118
  t212 := Tryz.underlying139
  a212 := Tryz.isAgg139
  z212 := Tryz.sizeOf139
  v212 := Tryz.zeroValue139
  t213 := Tryz.underlying140
  a213 := Tryz.isAgg140
  z213 := Tryz.sizeOf140
  t232 := Tryz.underlying162
  a232 := Tryz.isAgg162
  z232 := Tryz.sizeOf162
  v232 := Tryz.zeroValue162
  t233 := Tryz.underlying163
  a233 := Tryz.isAgg163
  z233 := Tryz.sizeOf163
  v233 := Tryz.zeroValue163
  g17 := by kernel_rfl
  g18 := by kernel_rfl
  g19 := by kernel_rfl
  i0 := by kernel_rfl
  i2 := by kernel_rfl
  i3 := by kernel_rfl
  i4 := by kernel_rfl
  i5 := by kernel_rfl
  i9 := by kernel_rfl
  i20 := by kernel_rfl
  i37 := by kernel_rfl
  i46 := by kernel_rfl
  i51 := by kernel_rfl
  i53 := by kernel_rfl
  i171 := by kernel_rfl
  i173 := by kernel_rfl
  i212 := by kernel_rfl
  i232 := by kernel_rfl
  i233 := by kernel_rfl
  m17 := by kernel_rfl
  m18 := by kernel_rfl
  m19 := by kernel_rfl }
open Go.RowKit Go.Sort Go.Lib in

theorem Tryz.strconv_Itoa (n : Int) (h0 : -9223372036854775808 ≤ n) (h1 : n ≤ 9223372036854775807) (w : World) (htab : Lib.TabIs Tryz.prog w "internal/strconv.uint64pow10" .u64 Lib.pow10Tab) :
    Calls Tryz.prog 26 #[.int .i64 n] w fun e w' => e = .returned (.string ⟨(Lib.itoa n).toArray⟩) ∧ ∃ k os, w' = grow (w.drewN k) os := Any.strconv_Itoa Tryz.laysM171 n h0 h1 w htab
end Go.Proofs.YtognccpmaljamaaGreatDoor.Sa

/- The library's functions that are not followed by their code: their contracts. -/
namespace Go.Proofs.YtognccpmaljamaaGreatDoor.Sa
open Go

/-! ### digits of 10 -/
theorem natL_acc (b : Nat) : ∀ (f n : Nat) (acc : List UInt8), natL b f n acc = natL b f n [] ++ acc
  | 0, n, acc => by simp [natL]
  | f + 1, n, acc => by
    unfold natL
    split
    · simp
    · rw [natL_acc b f (n / b) (digitL (n % b) :: acc), natL_acc b f (n / b) [digitL (n % b)]]
      simp

theorem natL_fuel : ∀ (f g n : Nat), n < 10 ^ (f + 1) → n < 10 ^ (g + 1) → natL 10 (f + 1) n [] = natL 10 (g + 1) n []
  | f, g, n, h, h' => by
    unfold natL
    by_cases hn : n < 10
    · rw [if_pos hn, if_pos hn]
    · rw [if_neg hn, if_neg hn, natL_acc, natL_acc 10 g]
      cases f with
      | zero => simp at h; omega
      | succ f =>
        cases g with
        | zero => simp at h'; omega
        | succ g =>
          have h1 : n / 10 < 10 ^ (f + 1) := by rw [Nat.pow_succ] at h; omega
          have h2 : n / 10 < 10 ^ (g + 1) := by rw [Nat.pow_succ] at h'; omega
          rw [natL_fuel f g (n / 10) h1 h2]

theorem natL_step (n : Nat) (h : ¬ n < 10) (h' : n < 10 ^ 70) : natL 10 70 n [] = natL 10 70 (n / 10) [] ++ [digitL (n % 10)] := by
  rw [show natL 10 70 n [] = natL 10 (69 + 1) n [] from rfl, natL, if_neg h, natL_acc]
  have h1 : n / 10 < 10 ^ 69 := by
    have : (10 : Nat) ^ 70 = 10 ^ 69 * 10 := Nat.pow_succ ..
    omega
  have h2 : n / 10 < 10 ^ 70 := by omega
  rw [natL_fuel 68 69 (n / 10) h1 h2]

theorem natL_one (n : Nat) (h : n < 10) : natL 10 70 n [] = [digitL n] := by
  rw [show natL 10 70 n [] = natL 10 (69 + 1) n [] from rfl, natL, if_pos h]

theorem decDigits_natL : ∀ n : Nat, n < 10 ^ 70 → Lib.decDigits n = natL 10 70 n [] := by
  intro n
  induction n using Nat.strongRecOn with
  | _ n ih =>
    intro h
    rw [Lib.decDigits]
    by_cases hn : n < 10
    · rw [dif_pos hn, natL_one n hn, digitL, if_pos hn]
    · rw [dif_neg hn, natL_step n hn h, ih (n / 10) (by omega) (by omega), digitL, if_pos (by omega)]

theorem itoa_decL {n : Int} (h0 : -9223372036854775808 ≤ n) (h1 : n ≤ 9223372036854775807) : Lib.itoa n = decL n := by
  unfold Lib.itoa decL
  split
  · rw [decDigits_natL _ (by omega), show (-n).toNat = n.natAbs by omega]
  · rw [decDigits_natL _ (by omega)]

theorem join_joinL (sep : List UInt8) : ∀ l : List (List UInt8), Lib.join l sep = joinL sep l
  | [] => rfl
  | [a] => Lib.join_one a sep
  | a :: b :: l => by
    have ih := join_joinL sep (b :: l)
    rw [Lib.join_cons] at ih ⊢
    rw [joinL, ← ih, Lib.joinTail, Lib.joinTail]
    · simp
    · simp

/-! ### worlds in which nothing that lay has turned -/
section
variable {B : Base} {s : S} {tm : Array Value} {w : World} {Own : Owner} {ρ : List Nat} {M : Mem}
theorem RS.below (h : RS B s tm w Own ρ M) {w' : World} (hb : RowKit.Below w.heap.size w w') : RS B s tm w' Own ρ M :=
  h.away (h.wi.to (fun g q hg => .inl ⟨q, hg⟩) hb.size (fun g hg _ => hb.block g hg)) (h.fr.to hb.os hb.tape hb.output hb.size (fun g hg _ => hb.block g (by have := h.fr.size; omega))) h.own0 (fun g ℓ _ hg => ⟨hg, hb.block g (h.wi.lt g ℓ hg)⟩)
end

theorem below_grow (w : World) (k : Nat) (os : Array Obj) : RowKit.Below w.heap.size w (Sort.grow (w.drewN k) os) :=
  (below_drewN (RowKit.Below.refl _ w) k).trans ⟨rfl, rfl, rfl, by simp [Sort.grow], fun g hg => by
    have e : (w.drewN k).heap = w.heap := rfl
    simp only [Sort.grow]
    rw [Array.getElem?_append, if_pos (by rw [e]; exact hg)]⟩

/-! ### strconv.Itoa -/
theorem pow10_tab {w : World} (h : GlobMem.W w) : Lib.TabIs Tryz.prog w "internal/strconv.uint64pow10" .u64 Lib.pow10Tab := by
  have hg : Tryz.prog.globalNamed "internal/strconv.uint64pow10" = some 1 := by kernel_rfl
  obtain ⟨cs, e, fz, h1, h2⟩ := (show globW glt w from h) 1 0 (.int .u64 1) (by kernel_rfl)
  have h3 : findG 1 glt = some (Lib.pow10Tab.map (.int .u64)) := by kernel_rfl
  rw [h1] at h3
  cases h3
  unfold Lib.TabIs World.var?
  rw [hg]
  simp only [Option.bind_some, h2]
  exact congrArg some (by kernel_rfl)

noncomputable def e26 : Ans := fun args h K => match args with
  | [.int .i64 n] => gd (inI64 n) (K (.str (decL n)) h)
  | _ => none
theorem HoldL_1 {Own : Owner} {w : World} {ρ : List Nat} {M : Mem} {ℓ : List Nat → Loc} {a : AVal} {xs : List Value} (h : HoldL Own w ρ M ℓ 0 [a] xs) : ∃ v, xs = [v] ∧ Hold Own w ρ M (fun p => ℓ (0 :: p)) a v := by
  match xs, h with
  | [v], h => exact ⟨v, rfl, by simp only [HoldL] at h; exact h.1⟩
  | [], h => simp [HoldL] at h
  | _ :: _ :: _, h => simp [HoldL] at h
theorem HoldL_2 {Own : Owner} {w : World} {ρ : List Nat} {M : Mem} {ℓ : List Nat → Loc} {a b : AVal} {xs : List Value} (h : HoldL Own w ρ M ℓ 0 [a, b] xs) : ∃ u v, xs = [u, v] ∧ Hold Own w ρ M (fun p => ℓ (0 :: p)) a u ∧ Hold Own w ρ M (fun p => ℓ (1 :: p)) b v := by
  match xs, h with
  | [u, v], h => exact ⟨u, v, rfl, by simp only [HoldL] at h; exact ⟨h.1, h.2.1⟩⟩
  | [], h => simp [HoldL] at h
  | [_], h => simp [HoldL] at h
  | _ :: _ :: _ :: _, h => simp [HoldL] at h
theorem hold_int {Own : Owner} {w : World} {ρ : List Nat} {M : Mem} {ℓ : List Nat → Loc} {k : IntKind} {n : Int} {v : Value} (h : Hold Own w ρ M ℓ (.int k n) v) : v = .int k n := by simpa [Hold, AVal.uniq, V] using h
theorem hold_str {Own : Owner} {w : World} {ρ : List Nat} {M : Mem} {ℓ : List Nat → Loc} {s : List UInt8} {v : Value} (h : Hold Own w ρ M ℓ (.str s) v) : v = strV s := by simpa [Hold, AVal.uniq, V] using h

theorem ok26 : AnsOK Tryz.prog 26 e26 := by
  intro args h K r hr
  unfold e26 at hr
  split at hr
  · rename_i n
    obtain ⟨hg, hr⟩ := gd_some hr
    unfold inI64 at hg
    simp only [Bool.and_eq_true, decide_eq_true_eq] at hg
    intro Own w ρ M xs hRS hH
    obtain ⟨v, rfl, hv⟩ := HoldL_1 hH
    obtain rfl := hold_int hv
    left
    refine ⟨by kernel_rfl, (Tryz.strconv_Itoa n hg.1 hg.2 w (pow10_tab hRS.world)).mono ?_⟩
    rintro e w' ⟨rfl, k, os, rfl⟩
    refine ⟨.str (decL n), h, Own, ρ, M, hr, hRS.below (below_grow w k os), ?_⟩
    rw [itoa_decL hg.1 hg.2]
    simp [Hold, AVal.uniq, V]
  · cases hr

/-! ### strings.Join -/
theorem join_data (l : List (List UInt8)) : (l.map fun x => (⟨x.toArray⟩ : ByteArray)).map (·.data.toList) = l := by
  rw [List.map_map]
  induction l with
  | nil => rfl
  | cons a l ih => rw [List.map_cons, ih]; rfl

noncomputable def e61 : Ans := fun args h K => match args with
  | [.strs _ l, .str sep] => gd (decide ((joinL sep l).length ≤ LIM) && decide (l.length ≤ LIM)) (K (.str (joinL sep l)) h)
  | _ => none

/-- What a slice of texts is made of, owned or not. -/
theorem strs_cells {Own : Owner} {w : World} {ρ : List Nat} {M : Mem} (hwi : WI Own M w) {ℓ : List Nat → Loc} {u : Bool} {l : List (List UInt8)} {v : Value} (h : Hold Own w ρ M ℓ (.strs u l) v) :
    ∃ base cap, v = .slice base l.length cap ∧ l.length ≤ cap ∧ (l = [] ∨ ∃ g o, base = some ⟨g, o, none⟩ ∧ g < w.heap.size ∧ ∀ (j : Nat) x, l[j]? = some x → w.cell? ⟨g, o + j, none⟩ = some (strV x)) := by
  have lt : ∀ g o c, w.cell? ⟨g, o, none⟩ = some c → g < w.heap.size := fun g o c hc => by
    simp only [World.cell?] at hc
    rcases Nat.lt_or_ge g w.heap.size with hl | hl
    · exact hl
    · rw [Array.getElem?_eq_none hl] at hc; cases hc
  have done : ∀ (g o : Nat), (∀ (j : Nat) x, l[j]? = some x → w.cell? ⟨g, o + j, none⟩ = some (strV x)) → ∀ (base : Option Addr), base = some ⟨g, o, none⟩ → (l = [] ∨ ∃ g o, base = some ⟨g, o, none⟩ ∧ g < w.heap.size ∧ ∀ (j : Nat) x, l[j]? = some x → w.cell? ⟨g, o + j, none⟩ = some (strV x)) := fun g o hc base hb => by
    cases l with
    | nil => exact .inl rfl
    | cons x l => exact .inr ⟨g, o, hb, lt g (o + 0) _ (hc 0 x rfl), hc⟩
  cases u with
  | false =>
    simp only [Hold, AVal.uniq, V] at h
    obtain ⟨_, base, cap, rfl, hcap, hcl⟩ := h
    refine ⟨base, cap, rfl, hcap, ?_⟩
    rcases hcl with hn | ⟨g, o, hb, hc⟩
    · left; simpa using hn
    · refine done g o (fun j x hx => ?_) base hb
      obtain ⟨c, h1, h2⟩ := hc j (fun c => c = strV x) (by rw [List.getElem?_map, hx]; rfl)
      rw [(hwi.agree g (o + j) c h1).1, h2]
  | true =>
    simp only [Hold, AVal.uniq, HoldU, OwnSl] at h
    obtain ⟨_, base, cap, rfl, hcap, hcl⟩ := h
    simp only [AVal.num] at hcap
    refine ⟨base, cap, rfl, hcap, ?_⟩
    rcases hcl with ⟨_, h0⟩ | ⟨g, o, hb, _, arr, e, fz, ha, _, _, hc⟩
    · left; exact List.length_eq_zero_iff.1 (by omega)
    · refine done g o (fun j x hx => ?_) base hb
      obtain ⟨c, h1, _, h2⟩ := hc j (fun c => c = strV x) (by simp only [cellPs]; rw [List.getElem?_map, hx]; rfl)
      rw [cell_at ha, h1, h2]

theorem ok61 : AnsOK Tryz.prog 61 e61 := by
  intro args h K r hr
  unfold e61 at hr
  split at hr
  · rename_i u l sep
    obtain ⟨hg, hr⟩ := gd_some hr
    simp only [Bool.and_eq_true, decide_eq_true_eq] at hg
    obtain ⟨g1, g2⟩ := hg
    have hL : LIM = 2147483648 := rfl
    rw [hL] at g1 g2
    intro Own w ρ M xs hRS hH
    obtain ⟨a, b, rfl, ha, hb⟩ := HoldL_2 hH
    obtain rfl := hold_str hb
    obtain ⟨base, cap, rfl, hcap, hcl⟩ := strs_cells hRS.wi ha
    left
    refine ⟨by kernel_rfl, ?_⟩
    rcases hcl with rfl | ⟨g, o, rfl, hlt, hc⟩
    · refine (Tryz.strings_Join_none base cap _ w).mono ?_
      rintro e w' ⟨rfl, rfl⟩
      exact ⟨.str (joinL sep []), h, Own, ρ, M, hr, hRS, by simp [Hold, AVal.uniq, V, joinL]⟩
    · have hj := join_data l
      have H := Tryz.strings_Join g o cap (l.map fun x => (⟨x.toArray⟩ : ByteArray)) ⟨sep.toArray⟩ w (fun j x hx => by
        rw [List.getElem?_map, Option.map_eq_some_iff] at hx
        obtain ⟨y, hy, rfl⟩ := hx
        exact hc j y hy) hlt (by rw [List.length_map]; omega) (by rw [List.length_map]; exact hcap) (by rw [hj, join_joinL]; show (joinL sep l).length ≤ _; omega)
      rw [List.length_map] at H
      refine H.mono ?_
      rintro e w' ⟨rfl, hw⟩
      rw [hj, join_joinL]
      exact ⟨.str (joinL sep l), h, Own, ρ, M, hr, hRS.below hw, by simp [Hold, AVal.uniq, V]⟩
  · cases hr

/-! ### what the model stands in for -/
noncomputable def e144 : Ans := fun args h K => match args with
  | [.str s, .int .u8 c] => K (.int .i64 (Lib.indexByte s c.toNat.toUInt8)) h
  | _ => none
theorem ok144 : AnsOK Tryz.prog 144 e144 := by
  intro args h K r hr
  unfold e144 at hr
  split at hr
  · rename_i s c
    intro Own w ρ M xs hRS hH
    obtain ⟨a, b, rfl, ha, hb⟩ := HoldL_2 hH
    obtain rfl := hold_str ha
    obtain rfl := hold_int hb
    right
    refine ⟨.int .i64 (Lib.indexByte s c.toNat.toUInt8), w, ?_, .int .i64 (Lib.indexByte s c.toNat.toUInt8), h, Own, ρ, M, hr, hRS, by simp [Hold, AVal.uniq, V]⟩
    rw [show [strV s, Value.int .u8 c].toArray = #[.string ⟨s.toArray⟩, .int .u8 c] from rfl, run_callFunc_extern Tryz.func144 (by kernel_rfl) (by kernel_rfl) (by kernel_rfl) (e := Extern.BytealgIndexByte.indexByte) (by kernel_rfl), Lib.run_indexByteString]
    rfl
  · cases hr

noncomputable def e189 : Ans := fun args h K => match args with
  | [.str s, .int .u8 c] => K (.int .i64 (Lib.countByte s c.toNat.toUInt8)) h
  | _ => none
theorem ok189 : AnsOK Tryz.prog 189 e189 := by
  intro args h K r hr
  unfold e189 at hr
  split at hr
  · rename_i s c
    intro Own w ρ M xs hRS hH
    obtain ⟨a, b, rfl, ha, hb⟩ := HoldL_2 hH
    obtain rfl := hold_str ha
    obtain rfl := hold_int hb
    right
    refine ⟨.int .i64 (Lib.countByte s c.toNat.toUInt8), w, ?_, .int .i64 (Lib.countByte s c.toNat.toUInt8), h, Own, ρ, M, hr, hRS, by simp [Hold, AVal.uniq, V]⟩
    rw [show [strV s, Value.int .u8 c].toArray = #[.string ⟨s.toArray⟩, .int .u8 c] from rfl, run_callFunc_extern Tryz.func189 (by kernel_rfl) (by kernel_rfl) (by kernel_rfl) (e := Extern.BytealgCount.count) (by kernel_rfl), Lib.run_countString]
    rfl
  · cases hr

theorem none_ok {P : Program} : OracleOK P (fun _ _ _ _ => none) := fun _ _ _ _ _ hr => by cases hr
noncomputable def Sp0 : Oracle := ext 26 e26 (ext 61 e61 (ext 144 e144 (ext 189 e189 (fun _ _ _ _ => none))))
theorem hO0 : OracleOK Tryz.prog Sp0 := ext_ok ok26 (ext_ok ok61 (ext_ok ok144 (ext_ok ok189 none_ok)))

end Go.Proofs.YtognccpmaljamaaGreatDoor.Sa
