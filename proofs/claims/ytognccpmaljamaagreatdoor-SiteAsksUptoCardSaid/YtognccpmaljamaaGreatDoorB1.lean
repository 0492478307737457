/- SiteAsks answers true for every input whose arguments hold together at most 1048576 values and letters, and leaves its arguments as they were; the listed package-level tables hold what the program's text lays. -/
import Derived.Test.YtognccpmaljamaaGreatDoorB0
import Derived.Deep.AppendSrc
import Derived.Deep.MidRow
import Derived.Deep.Draws
import Derived.Laws.Entries
import Derived.Laws.Cover1
import Derived.Laws.Slices
import Derived.Laws.BytesArg
import Derived.Laws.BytesString
set_option linter.unusedVariables false
set_option linter.unusedSimpArgs false
set_option linter.unusedSectionVars false
set_option linter.unnecessarySimpa false
set_option linter.constructorNameAsVariable false
/- AS, part S1: what AS's values say of the machine's; a claimed memory that stays; owners of blocks (definitions, first facts). -/
namespace Go.Proofs.YtognccpmaljamaaGreatDoor.Sa
open Go

/-- Cells that stay as they are. -/
abbrev Mem := Nat → Nat → Option Value
noncomputable def MLe (M M' : Mem) : Prop := ∀ g o c, M g o = some c → M' g o = some c
theorem MLe.refl (M : Mem) : MLe M M := fun _ _ _ h => h
theorem MLe.trans {A B C : Mem} (h : MLe A B) (k : MLe B C) : MLe A C := fun _ _ _ x => k _ _ _ (h _ _ _ x)

/-- What lies in tables that nobody writes. -/
class GlobMem where
  M : Mem
  W : World → Prop
  keep : ∀ w w', W w → (∀ g o c, M g o = some c → w'.heap[g]? = w.heap[g]?) → W w'
  lt : ∀ w, W w → ∀ g o c, M g o = some c → g < w.heap.size

/-- Who owns a block: a variable, a slice in a slot, in a block's cell, under way. -/
inductive Loc where
  | var (b : Nat)
  | slot (t : Nat) (p : List Nat)
  | cell (b o : Nat)
  | fly (k : Nat) (p : List Nat)

abbrev Owner := Nat → Option Loc

abbrev strV (s : List UInt8) : Value := .string ⟨s.toArray⟩

/-- From base on lie cells of which ps hold, for good. -/
noncomputable def Claims (M : Mem) (base : Option Addr) (ps : List (Value → Prop)) : Prop :=
  ps = [] ∨ ∃ g o, base = some ⟨g, o, none⟩ ∧ ∀ i p, ps[i]? = some p → ∃ c, M g (o + i) = some c ∧ p c

mutual
/-- What a value that nobody owns says of the machine's. -/
noncomputable def V (ρ : List Nat) (M : Mem) : AVal → Value → Prop
  | .undef, _ => True
  | .bool b, v => v = .bool b
  | .int k n, v => v = .int k n
  | .str s, v => v = strV s
  | .nilp, v => v = .pointer none
  | .ptr b o, v => ∃ g, ρ[b]? = some g ∧ v = .pointer (some ⟨g, o, none⟩)
  | .rptr cs, v => ∃ g o, v = .pointer (some ⟨g, o, none⟩) ∧ VC ρ M g o cs
  | .ints u k l, v => u = false ∧ ∃ base cap, v = .slice base l.length cap ∧ l.length ≤ cap ∧ Claims M base (l.map fun x c => c = .int k x)
  | .strs u l, v => u = false ∧ ∃ base cap, v = .slice base l.length cap ∧ l.length ≤ cap ∧ Claims M base (l.map fun x c => c = strV x)
  | .strs2 u l, v => u = false ∧ ∃ base cap, v = .slice base l.length cap ∧ l.length ≤ cap ∧ Claims M base (l.flatMap fun p => [fun c => c = strV p.1, fun c => c = strV p.2])
  | .rows u z l, v => u = false ∧ (∀ r, r ∈ l → r.length = z) ∧ ∃ base cap, v = .slice base l.length cap ∧ l.length ≤ cap ∧ (l.flatten = [] ∨ ∃ g o, base = some ⟨g, o, none⟩ ∧ VR ρ M g o l)
  | .slen n, v => ∃ base cap, v = .slice base n cap
  | .agg cs, v => ∃ vs : List Value, v = .agg vs.toArray ∧ VL ρ M cs vs ∧ ∀ u ∈ vs, u.oneCell' = true
  | .tup cs, v => ∃ vs : List Value, v = .tuple vs.toArray ∧ VL ρ M cs vs
  | .fn f caps, v => ∃ vs : List Value, v = .func (.func f) #[] vs.toArray ∧ VL ρ M caps vs
  | .nilf, v => v = .nilFunc
  | .nili, v => v = .nilIface
  | .eref _ _, _ => False
  | .sref _, _ => False
noncomputable def VL (ρ : List Nat) (M : Mem) : List AVal → List Value → Prop
  | [], [] => True
  | a :: as, v :: vs => V ρ M a v ∧ VL ρ M as vs
  | _, _ => False
noncomputable def VC (ρ : List Nat) (M : Mem) (g o : Nat) : List AVal → Prop
  | [] => True
  | a :: as => (∃ c, M g o = some c ∧ V ρ M a c) ∧ VC ρ M g (o + 1) as
noncomputable def VR (ρ : List Nat) (M : Mem) (g o : Nat) : List (List AVal) → Prop
  | [] => True
  | r :: rs => VC ρ M g o r ∧ VR ρ M g (o + r.length) rs
end

/-- What a slice's cells say. -/
noncomputable def cellPs (ρ : List Nat) (M : Mem) : AVal → List (Value → Prop)
  | .ints _ k l => l.map fun x c => c = .int k x
  | .strs _ l => l.map fun x c => c = strV x
  | .strs2 _ l => l.flatMap fun p => [fun c => c = strV p.1, fun c => c = strV p.2]
  | .rows _ _ l => l.flatten.map fun a => V ρ M a
  | _ => []

noncomputable def AVal.num : AVal → Nat
  | .ints _ _ l => l.length
  | .strs _ l => l.length
  | .strs2 _ l => l.length
  | .rows _ _ l => l.length
  | _ => 0

noncomputable def AVal.wide : AVal → Prop
  | .rows _ z l => ∀ r, r ∈ l → r.length = z
  | _ => True

/-- Cells of which ps hold lie in block g, from o on; there is room for cap elements. -/
noncomputable def RowAt (w : World) (ps : List (Value → Prop)) (g o z cap : Nat) : Prop :=
  ∃ arr e fz, w.heap[g]? = some (.cells arr e fz) ∧ (fz.2 = 0 ∨ arr.size ≤ fz.1) ∧ o + cap * z ≤ arr.size ∧ ∀ i p, ps[i]? = some p → ∃ c, arr[o + i]? = some c ∧ c.oneCell' = true ∧ p c

noncomputable def OwnSl (Own : Owner) (w : World) (ps : List (Value → Prop)) (z n : Nat) (ℓ : Loc) (v : Value) : Prop :=
  ∃ base cap, v = .slice base n cap ∧ n ≤ cap ∧ ((base = none ∧ cap = 0) ∨ ∃ g o, base = some ⟨g, o, none⟩ ∧ Own g = some ℓ ∧ RowAt w ps g o z cap)

/-- A slice of one's own. -/
noncomputable def HoldU (Own : Owner) (w : World) (ρ : List Nat) (M : Mem) (ℓ : Loc) (a : AVal) (v : Value) : Prop :=
  a.wide ∧ OwnSl Own w (cellPs ρ M a) a.wid a.num ℓ v

mutual
/-- What a value says that may hold slices of one's own, at a place. -/
noncomputable def Hold (Own : Owner) (w : World) (ρ : List Nat) (M : Mem) : (List Nat → Loc) → AVal → Value → Prop
  | ℓ, .agg cs, v => ∃ vs : List Value, v = .agg vs.toArray ∧ HoldL Own w ρ M ℓ 0 cs vs ∧ ∀ u ∈ vs, u.oneCell' = true
  | ℓ, .tup cs, v => ∃ vs : List Value, v = .tuple vs.toArray ∧ HoldL Own w ρ M ℓ 0 cs vs
  | ℓ, a, v => match a.uniq with
    | true => HoldU Own w ρ M (ℓ []) a v
    | false => V ρ M a v
noncomputable def HoldL (Own : Owner) (w : World) (ρ : List Nat) (M : Mem) : (List Nat → Loc) → Nat → List AVal → List Value → Prop
  | _, _, [], [] => True
  | ℓ, i, a :: as, v :: vs => Hold Own w ρ M (fun p => ℓ (i :: p)) a v ∧ HoldL Own w ρ M ℓ (i + 1) as vs
  | _, _, _, _ => False
end

/-- The claimed memory and the owners fit the world. -/
structure WI (Own : Owner) (M : Mem) (w : World) : Prop where
  agree : ∀ g o c, M g o = some c → w.cell? ⟨g, o, none⟩ = some c ∧ c.oneCell' = true
  free : ∀ g ℓ, Own g = some ℓ → ∀ o, M g o = none
  lt : ∀ g ℓ, Own g = some ℓ → g < w.heap.size

/-- What lay in w lies in w', but for the blocks of F. -/
structure Fr (F : Nat → Prop) (w w' : World) : Prop where
  os : w'.os = w.os
  tape : w'.tape = w.tape
  output : w'.output = w.output
  size : w.heap.size ≤ w'.heap.size
  keep : ∀ g, g < w.heap.size → ¬ F g → w'.heap[g]? = w.heap[g]?

theorem Fr.refl (F : Nat → Prop) (w : World) : Fr F w w := ⟨rfl, rfl, rfl, Nat.le_refl _, fun _ _ _ => rfl⟩

/-- A variable's block. -/
noncomputable def BlkAt (Own : Owner) (w : World) (ρ : List Nat) (M : Mem) (b : Nat) (cs : List AVal) : Prop :=
  ∃ g arr e, ρ[b]? = some g ∧ Own g = some (.var b) ∧ w.heap[g]? = some (.cells arr e (0, 0)) ∧ arr.size = cs.length ∧
    ∀ (o : Nat) (a : AVal) (v : Value), cs[o]? = some a → arr[o]? = some v → v.oneCell' = true ∧ Hold Own w ρ M (fun _ => .cell b o) a v

/-- What a slot holds. -/
noncomputable def SlotOK (Own : Owner) (w : World) (ρ : List Nat) (M : Mem) (env : List AVal) (tm : Array Value) (ℓ : List Nat → Loc) (a : AVal) (v : Value) : Prop :=
  match a with
  | .sref u => ∃ b, env[u]? = some b ∧ b.uniq = true ∧ tm[u]? = some v
  | .eref u i => ∃ b, env[u]? = some b ∧ b.uniq = true ∧ ∃ g o n cap, tm[u]? = some (.slice (some ⟨g, o, none⟩) n cap) ∧ v = .pointer (some ⟨g, o + i, none⟩)
  | a => Hold Own w ρ M ℓ a v

/-- Where a call began: what may be turned, the world, the claims, the variables' blocks. -/
structure Base where
  F : Nat → Prop
  w : World
  M : Mem
  ρ : List Nat

/-- The tables stand: they are claimed, they lie where the walk began, and the walk owns none of their blocks. -/
noncomputable def GlobIn [GlobMem] (B : Base) (M : Mem) : Prop := MLe GlobMem.M M ∧ GlobMem.W B.w ∧ ∀ g o c, GlobMem.M g o = some c → ¬ B.F g
theorem GlobIn.trans [GlobMem] {B : Base} {M M' : Mem} (h : GlobIn B M) (hM : MLe M M') : GlobIn B M' := ⟨h.1.trans hM, h.2⟩

structure RS [GlobMem] (B : Base) (s : S) (tm : Array Value) (w : World) (Own : Owner) (ρ : List Nat) (M : Mem) : Prop where
  wi : WI Own M w
  fr : Fr B.F B.w w
  mle : MLe B.M M
  glob : GlobIn B M
  ext : ∀ (b g : Nat), B.ρ[b]? = some g → ρ[b]? = some g
  own0 : ∀ g ℓ, Own g = some ℓ → B.F g ∨ B.w.heap.size ≤ g
  mnew : ∀ g o c, M g o = some c → B.M g o = some c ∨ B.F g ∨ B.w.heap.size ≤ g
  len : tm.size = s.env.length
  env : ∀ (t : Nat) (a : AVal) (v : Value), s.env[t]? = some a → tm[t]? = some v → SlotOK Own w ρ M s.env tm (.slot t) a v
  hlen : ρ.length = s.heap.length
  heap : ∀ (b : Nat) (cs : List AVal), s.heap[b]? = some cs → cs ≠ [] → BlkAt Own w ρ M b cs

theorem RS.world [GlobMem] {B : Base} {s : S} {tm : Array Value} {w : World} {Own : Owner} {ρ : List Nat} {M : Mem} (h : RS B s tm w Own ρ M) : GlobMem.W w :=
  GlobMem.keep _ _ h.glob.2.1 fun g o c hc => h.fr.keep g (GlobMem.lt _ h.glob.2.1 g o c hc) (h.glob.2.2 g o c hc)
theorem RS.globNew [GlobMem] {B : Base} {s : S} {tm : Array Value} {w : World} {Own : Owner} {ρ : List Nat} {M : Mem} (h : RS B s tm w Own ρ M) {M' : Mem} {ρ' : List Nat} : GlobIn ⟨fun g => Own g ≠ none, w, M', ρ'⟩ M :=
  ⟨h.glob.1, h.world, fun g o c hc hF => by
    have := h.glob.1 g o c hc
    cases hg : Own g with
    | none => exact hF hg
    | some q => rw [h.wi.free g q hg o] at this; cases this⟩

end Go.Proofs.YtognccpmaljamaaGreatDoor.Sa

/- AS, part S2: facts on what values say: more claims, other owners, laying open. -/
namespace Go.Proofs.YtognccpmaljamaaGreatDoor.Sa
open Go

noncomputable def Ext (ρ ρ' : List Nat) : Prop := ∀ (b g : Nat), ρ[b]? = some g → ρ'[b]? = some g
theorem Ext.refl (ρ : List Nat) : Ext ρ ρ := fun _ _ h => h
theorem Ext.append (ρ ρ' : List Nat) : Ext ρ (ρ ++ ρ') := fun b g h => by
  rw [List.getElem?_append_left (List.getElem?_eq_some_iff.1 h).1]; exact h
theorem Ext.trans {a b c : List Nat} (h : Ext a b) (k : Ext b c) : Ext a c := fun _ _ x => k _ _ (h _ _ x)

theorem Claims.mono {M M' : Mem} {base : Option Addr} {ps : List (Value → Prop)} (hM : MLe M M') (h : Claims M base ps) : Claims M' base ps := by
  rcases h with h | ⟨g, o, hb, h⟩
  · exact .inl h
  · exact .inr ⟨g, o, hb, fun i p hp => let ⟨c, hc, hpc⟩ := h i p hp; ⟨c, hM _ _ _ hc, hpc⟩⟩

mutual
theorem V_mono {ρ ρ' : List Nat} {M M' : Mem} (hρ : Ext ρ ρ') (hM : MLe M M') : ∀ (a : AVal) (v : Value), V ρ M a v → V ρ' M' a v
  | .undef, _, _ => by simp only [V]
  | .bool _, _, h => by simpa only [V] using h
  | .int _ _, _, h => by simpa only [V] using h
  | .str _, _, h => by simpa only [V] using h
  | .nilp, _, h => by simpa only [V] using h
  | .ptr b o, _, h => by
    simp only [V] at h ⊢
    obtain ⟨g, hg, hv⟩ := h
    exact ⟨g, hρ _ _ hg, hv⟩
  | .rptr cs, _, h => by
    simp only [V] at h ⊢
    obtain ⟨g, o, hv, hc⟩ := h
    exact ⟨g, o, hv, VC_mono hρ hM cs g o hc⟩
  | .ints _ _ _, _, h => by
    simp only [V] at h ⊢
    obtain ⟨hu, base, cap, hv, hl, hc⟩ := h
    exact ⟨hu, base, cap, hv, hl, hc.mono hM⟩
  | .strs _ _, _, h => by
    simp only [V] at h ⊢
    obtain ⟨hu, base, cap, hv, hl, hc⟩ := h
    exact ⟨hu, base, cap, hv, hl, hc.mono hM⟩
  | .strs2 _ _, _, h => by
    simp only [V] at h ⊢
    obtain ⟨hu, base, cap, hv, hl, hc⟩ := h
    exact ⟨hu, base, cap, hv, hl, hc.mono hM⟩
  | .rows _ _ l, _, h => by
    simp only [V] at h ⊢
    obtain ⟨hu, hw, base, cap, hv, hl, hc⟩ := h
    refine ⟨hu, hw, base, cap, hv, hl, ?_⟩
    rcases hc with hc | ⟨g, o, hb, hc⟩
    · exact .inl hc
    · exact .inr ⟨g, o, hb, VR_mono hρ hM l g o hc⟩
  | .slen _, _, h => by simpa only [V] using h
  | .agg cs, _, h => by
    simp only [V] at h ⊢
    obtain ⟨vs, hv, hl, h1⟩ := h
    exact ⟨vs, hv, VL_mono hρ hM cs vs hl, h1⟩
  | .tup cs, _, h => by
    simp only [V] at h ⊢
    obtain ⟨vs, hv, hl⟩ := h
    exact ⟨vs, hv, VL_mono hρ hM cs vs hl⟩
  | .fn _ cs, _, h => by
    simp only [V] at h ⊢
    obtain ⟨vs, hv, hl⟩ := h
    exact ⟨vs, hv, VL_mono hρ hM cs vs hl⟩
  | .nilf, _, h => by simpa only [V] using h
  | .nili, _, h => by simpa only [V] using h
  | .eref _ _, _, h => by simp only [V] at h
  | .sref _, _, h => by simp only [V] at h
theorem VL_mono {ρ ρ' : List Nat} {M M' : Mem} (hρ : Ext ρ ρ') (hM : MLe M M') : ∀ (as : List AVal) (vs : List Value), VL ρ M as vs → VL ρ' M' as vs
  | [], [], _ => by simp only [VL]
  | a :: as, v :: vs, h => by
    simp only [VL] at h ⊢
    exact ⟨V_mono hρ hM a v h.1, VL_mono hρ hM as vs h.2⟩
  | [], _ :: _, h => by simp only [VL] at h
  | _ :: _, [], h => by simp only [VL] at h
theorem VC_mono {ρ ρ' : List Nat} {M M' : Mem} (hρ : Ext ρ ρ') (hM : MLe M M') : ∀ (as : List AVal) (g o : Nat), VC ρ M g o as → VC ρ' M' g o as
  | [], _, _, _ => by simp only [VC]
  | a :: as, g, o, h => by
    simp only [VC] at h ⊢
    obtain ⟨⟨c, hc, hv⟩, h2⟩ := h
    exact ⟨⟨c, hM _ _ _ hc, V_mono hρ hM a c hv⟩, VC_mono hρ hM as g (o + 1) h2⟩
theorem VR_mono {ρ ρ' : List Nat} {M M' : Mem} (hρ : Ext ρ ρ') (hM : MLe M M') : ∀ (rs : List (List AVal)) (g o : Nat), VR ρ M g o rs → VR ρ' M' g o rs
  | [], _, _, _ => by simp only [VR]
  | r :: rs, g, o, h => by
    simp only [VR] at h ⊢
    exact ⟨VC_mono hρ hM r g o h.1, VR_mono hρ hM rs g _ h.2⟩
end

/-- Cells in a row, one by one. -/
theorem VC_iff (ρ : List Nat) (M : Mem) (g : Nat) : ∀ (as : List AVal) (o : Nat), VC ρ M g o as ↔ ∀ i a, as[i]? = some a → ∃ c, M g (o + i) = some c ∧ V ρ M a c
  | [], o => by simp [VC]
  | a :: as, o => by
    simp only [VC, VC_iff ρ M g as (o + 1)]
    constructor
    · rintro ⟨h0, h⟩ i b hb
      cases i with
      | zero => simp only [List.getElem?_cons_zero, Option.some.injEq] at hb; subst hb; simpa using h0
      | succ i => simp only [List.getElem?_cons_succ] at hb; have := h i b hb; rwa [show o + 1 + i = o + (i + 1) by omega] at this
    · intro h
      refine ⟨by simpa using h 0 a rfl, fun i b hb => ?_⟩
      have := h (i + 1) b (by simpa using hb)
      rwa [show o + (i + 1) = o + 1 + i by omega] at this

theorem VR_iff (ρ : List Nat) (M : Mem) (g : Nat) : ∀ (rs : List (List AVal)) (o : Nat), VR ρ M g o rs ↔ VC ρ M g o rs.flatten
  | [], o => by simp [VR, VC]
  | r :: rs, o => by
    simp only [VR, VR_iff ρ M g rs, List.flatten_cons, VC_iff]
    constructor
    · rintro ⟨h1, h2⟩ i a ha
      by_cases hi : i < r.length
      · rw [List.getElem?_append_left hi] at ha
        exact h1 i a ha
      · rw [List.getElem?_append_right (by omega)] at ha
        have := h2 _ a ha
        rwa [show o + r.length + (i - r.length) = o + i by omega] at this
    · intro h
      refine ⟨fun i a ha => h i a (by rw [List.getElem?_append_left (List.getElem?_eq_some_iff.1 ha).1]; exact ha), fun i a ha => ?_⟩
      have := h (r.length + i) a (by rw [List.getElem?_append_right (by omega)]; simpa using ha)
      rwa [show o + (r.length + i) = o + r.length + i by omega] at this

/-- A slice laid open, by its cells. -/
noncomputable def Laid (ρ : List Nat) (M : Mem) (a : AVal) (v : Value) : Prop :=
  a.wide ∧ ∃ base cap, v = .slice base a.num cap ∧ a.num ≤ cap ∧ Claims M base (cellPs ρ M a)

theorem V_laid {ρ : List Nat} {M : Mem} {a : AVal} {v : Value} (hs : a.isSl = true) : V ρ M a v ↔ a.uniq = false ∧ Laid ρ M a v := by
  cases a <;> simp only [AVal.isSl, Bool.false_eq_true] at hs
  · simp only [V, AVal.uniq, Laid, AVal.wide, AVal.num, cellPs, true_and]
  · simp only [V, AVal.uniq, Laid, AVal.wide, AVal.num, cellPs, true_and]
  · simp only [V, AVal.uniq, Laid, AVal.wide, AVal.num, cellPs, true_and]
  · rename_i u z l
    simp only [V, AVal.uniq, Laid, AVal.wide, AVal.num, cellPs]
    have key : ∀ base : Option Addr, (l.flatten = [] ∨ ∃ g o, base = some ⟨g, o, none⟩ ∧ VR ρ M g o l) ↔ Claims M base (l.flatten.map fun a => V ρ M a) := by
      intro base
      unfold Claims
      constructor
      · rintro (h | ⟨g, o, hb, h⟩)
        · exact .inl (by simp [h])
        · refine .inr ⟨g, o, hb, fun i p hp => ?_⟩
          rw [VR_iff, VC_iff] at h
          rw [List.getElem?_map, Option.map_eq_some_iff] at hp
          obtain ⟨a, ha, rfl⟩ := hp
          exact h i a ha
      · rintro (h | ⟨g, o, hb, h⟩)
        · exact .inl (by simpa using h)
        · refine .inr ⟨g, o, hb, ?_⟩
          rw [VR_iff, VC_iff]
          intro i a ha
          exact h i (V ρ M a) (by rw [List.getElem?_map, ha]; rfl)
    constructor
    · rintro ⟨hu, hw, base, cap, hv, hl, hc⟩
      exact ⟨hu, hw, base, cap, hv, hl, (key base).1 hc⟩
    · rintro ⟨hu, hw, base, cap, hv, hl, hc⟩
      exact ⟨hu, hw, base, cap, hv, hl, (key base).2 hc⟩

theorem cellPs_mono {ρ ρ' : List Nat} {M M' : Mem} (hρ : Ext ρ ρ') (hM : MLe M M') (a : AVal) (i : Nat) (p' : Value → Prop) (h : (cellPs ρ' M' a)[i]? = some p') :
    ∃ p, (cellPs ρ M a)[i]? = some p ∧ ∀ c, p c → p' c := by
  cases a <;> simp only [cellPs, List.getElem?_nil, reduceCtorEq] at h ⊢
  · exact ⟨p', h, fun _ x => x⟩
  · exact ⟨p', h, fun _ x => x⟩
  · exact ⟨p', h, fun _ x => x⟩
  · rename_i u z l
    simp only [List.getElem?_map, Option.map_eq_some_iff] at h
    obtain ⟨x, hx, rfl⟩ := h
    exact ⟨V ρ M x, by rw [List.getElem?_map, hx]; rfl, fun c hc => V_mono hρ hM x c hc⟩

theorem Claims.imp {M : Mem} {base : Option Addr} {ps qs : List (Value → Prop)} (h : Claims M base ps) (hk : ∀ (i : Nat) q, qs[i]? = some q → ∃ p, ps[i]? = some p ∧ ∀ c, p c → q c) : Claims M base qs := by
  rcases h with h | ⟨g, o, hb, h⟩
  · refine .inl ?_
    cases qs with
    | nil => rfl
    | cons q qs => obtain ⟨p, hp, _⟩ := hk 0 q rfl; simp [h] at hp
  · exact .inr ⟨g, o, hb, fun i q hq => by
      obtain ⟨p, hp, hpq⟩ := hk i q hq
      obtain ⟨c, hc, hpc⟩ := h i p hp
      exact ⟨c, hc, hpq c hpc⟩⟩

theorem RowAt.imp {w w' : World} {ps qs : List (Value → Prop)} {g o z cap : Nat} (h : RowAt w ps g o z cap) (hg : w'.heap[g]? = w.heap[g]?) (hk : ∀ (i : Nat) q, qs[i]? = some q → ∃ p, ps[i]? = some p ∧ ∀ c, p c → q c) : RowAt w' qs g o z cap := by
  obtain ⟨arr, e, fz, ha, hf, hs, hc⟩ := h
  exact ⟨arr, e, fz, hg ▸ ha, hf, hs, fun i q hq => by
    obtain ⟨p, hp, hpq⟩ := hk i q hq
    obtain ⟨c, h1, h2, h3⟩ := hc i p hp
    exact ⟨c, h1, h2, hpq c h3⟩⟩

/-- A value handed on: other owners, other claims, another place, another world, as long as its own blocks are as they were. -/
theorem HoldU.move {Own Own' : Owner} {w w' : World} {ρ ρ' : List Nat} {M M' : Mem} {ℓ ℓ' : Loc} {a : AVal} {v : Value} (hρ : Ext ρ ρ') (hM : MLe M M')
    (hO : ∀ g, Own g = some ℓ → Own' g = some ℓ' ∧ w'.heap[g]? = w.heap[g]?) (h : HoldU Own w ρ M ℓ a v) : HoldU Own' w' ρ' M' ℓ' a v := by
  obtain ⟨hw, base, cap, hv, hl, hc⟩ := h
  refine ⟨hw, base, cap, hv, hl, ?_⟩
  rcases hc with hc | ⟨g, o, hb, hg, hr⟩
  · exact .inl hc
  · exact .inr ⟨g, o, hb, (hO g hg).1, hr.imp (hO g hg).2 (fun i q hq => cellPs_mono hρ hM a i q hq)⟩

mutual
theorem Hold_move {Own Own' : Owner} {w w' : World} {ρ ρ' : List Nat} {M M' : Mem} (hρ : Ext ρ ρ') (hM : MLe M M') : ∀ (a : AVal) (v : Value) (ℓ ℓ' : List Nat → Loc), (∀ g p, Own g = some (ℓ p) → Own' g = some (ℓ' p) ∧ w'.heap[g]? = w.heap[g]?) →
    Hold Own w ρ M ℓ a v → Hold Own' w' ρ' M' ℓ' a v
  | .agg cs, v, ℓ, ℓ', hO, h => by
    simp only [Hold] at h ⊢
    obtain ⟨vs, hv, hl, h1⟩ := h
    exact ⟨vs, hv, HoldL_move hρ hM cs vs 0 ℓ ℓ' hO hl, h1⟩
  | .tup cs, v, ℓ, ℓ', hO, h => by
    simp only [Hold] at h ⊢
    obtain ⟨vs, hv, hl⟩ := h
    exact ⟨vs, hv, HoldL_move hρ hM cs vs 0 ℓ ℓ' hO hl⟩
  | .ints u k l, v, ℓ, ℓ', hO, h => by
    cases u <;> simp only [Hold, AVal.uniq] at h ⊢
    · exact V_mono hρ hM _ v h
    · exact h.move hρ hM (fun g hg => hO g [] hg)
  | .strs u l, v, ℓ, ℓ', hO, h => by
    cases u <;> simp only [Hold, AVal.uniq] at h ⊢
    · exact V_mono hρ hM _ v h
    · exact h.move hρ hM (fun g hg => hO g [] hg)
  | .strs2 u l, v, ℓ, ℓ', hO, h => by
    cases u <;> simp only [Hold, AVal.uniq] at h ⊢
    · exact V_mono hρ hM _ v h
    · exact h.move hρ hM (fun g hg => hO g [] hg)
  | .rows u z l, v, ℓ, ℓ', hO, h => by
    cases u <;> simp only [Hold, AVal.uniq] at h ⊢
    · exact V_mono hρ hM _ v h
    · exact h.move hρ hM (fun g hg => hO g [] hg)
  | .undef, v, ℓ, ℓ', hO, h => by simp only [Hold, AVal.uniq] at h ⊢; exact V_mono hρ hM _ v h
  | .bool _, v, ℓ, ℓ', hO, h => by simp only [Hold, AVal.uniq] at h ⊢; exact V_mono hρ hM _ v h
  | .int _ _, v, ℓ, ℓ', hO, h => by simp only [Hold, AVal.uniq] at h ⊢; exact V_mono hρ hM _ v h
  | .str _, v, ℓ, ℓ', hO, h => by simp only [Hold, AVal.uniq] at h ⊢; exact V_mono hρ hM _ v h
  | .nilp, v, ℓ, ℓ', hO, h => by simp only [Hold, AVal.uniq] at h ⊢; exact V_mono hρ hM _ v h
  | .ptr _ _, v, ℓ, ℓ', hO, h => by simp only [Hold, AVal.uniq] at h ⊢; exact V_mono hρ hM _ v h
  | .rptr _, v, ℓ, ℓ', hO, h => by simp only [Hold, AVal.uniq] at h ⊢; exact V_mono hρ hM _ v h
  | .slen _, v, ℓ, ℓ', hO, h => by simp only [Hold, AVal.uniq] at h ⊢; exact V_mono hρ hM _ v h
  | .fn _ _, v, ℓ, ℓ', hO, h => by simp only [Hold, AVal.uniq] at h ⊢; exact V_mono hρ hM _ v h
  | .nilf, v, ℓ, ℓ', hO, h => by simp only [Hold, AVal.uniq] at h ⊢; exact V_mono hρ hM _ v h
  | .nili, v, ℓ, ℓ', hO, h => by simp only [Hold, AVal.uniq] at h ⊢; exact V_mono hρ hM _ v h
  | .eref _ _, v, ℓ, ℓ', hO, h => by simp only [Hold, AVal.uniq] at h ⊢; exact V_mono hρ hM _ v h
  | .sref _, v, ℓ, ℓ', hO, h => by simp only [Hold, AVal.uniq] at h ⊢; exact V_mono hρ hM _ v h
theorem HoldL_move {Own Own' : Owner} {w w' : World} {ρ ρ' : List Nat} {M M' : Mem} (hρ : Ext ρ ρ') (hM : MLe M M') : ∀ (as : List AVal) (vs : List Value) (i : Nat) (ℓ ℓ' : List Nat → Loc), (∀ g p, Own g = some (ℓ p) → Own' g = some (ℓ' p) ∧ w'.heap[g]? = w.heap[g]?) →
    HoldL Own w ρ M ℓ i as vs → HoldL Own' w' ρ' M' ℓ' i as vs
  | [], [], _, _, _, _, _ => by simp only [HoldL]
  | a :: as, v :: vs, i, ℓ, ℓ', hO, h => by
    simp only [HoldL] at h ⊢
    exact ⟨Hold_move hρ hM a v _ _ (fun g p hg => hO g (i :: p) hg) h.1, HoldL_move hρ hM as vs (i + 1) ℓ ℓ' hO h.2⟩
  | [], _ :: _, _, _, _, _, h => by simp only [HoldL] at h
  | _ :: _, [], _, _, _, _, h => by simp only [HoldL] at h
end

/-! ### nothing of one's own in it -/
mutual
theorem Hold_of_V {Own : Owner} {w : World} {ρ : List Nat} {M : Mem} : ∀ (a : AVal) (v : Value) (ℓ : List Nat → Loc), V ρ M a v → Hold Own w ρ M ℓ a v
  | .agg cs, v, ℓ, h => by
    simp only [V] at h
    simp only [Hold]
    obtain ⟨vs, hv, hl, h1⟩ := h
    exact ⟨vs, hv, HoldL_of_VL cs vs 0 ℓ hl, h1⟩
  | .tup cs, v, ℓ, h => by
    simp only [V] at h
    simp only [Hold]
    obtain ⟨vs, hv, hl⟩ := h
    exact ⟨vs, hv, HoldL_of_VL cs vs 0 ℓ hl⟩
  | .ints u k l, v, ℓ, h => by
    have hu : u = false := by simp only [V] at h; exact h.1
    subst hu; simpa only [Hold, AVal.uniq] using h
  | .strs u l, v, ℓ, h => by
    have hu : u = false := by simp only [V] at h; exact h.1
    subst hu; simpa only [Hold, AVal.uniq] using h
  | .strs2 u l, v, ℓ, h => by
    have hu : u = false := by simp only [V] at h; exact h.1
    subst hu; simpa only [Hold, AVal.uniq] using h
  | .rows u z l, v, ℓ, h => by
    have hu : u = false := by simp only [V] at h; exact h.1
    subst hu; simpa only [Hold, AVal.uniq] using h
  | .undef, v, ℓ, h => by simpa only [Hold, AVal.uniq] using h
  | .bool _, v, ℓ, h => by simpa only [Hold, AVal.uniq] using h
  | .int _ _, v, ℓ, h => by simpa only [Hold, AVal.uniq] using h
  | .str _, v, ℓ, h => by simpa only [Hold, AVal.uniq] using h
  | .nilp, v, ℓ, h => by simpa only [Hold, AVal.uniq] using h
  | .ptr _ _, v, ℓ, h => by simpa only [Hold, AVal.uniq] using h
  | .rptr _, v, ℓ, h => by simpa only [Hold, AVal.uniq] using h
  | .slen _, v, ℓ, h => by simpa only [Hold, AVal.uniq] using h
  | .fn _ _, v, ℓ, h => by simpa only [Hold, AVal.uniq] using h
  | .nilf, v, ℓ, h => by simpa only [Hold, AVal.uniq] using h
  | .nili, v, ℓ, h => by simpa only [Hold, AVal.uniq] using h
  | .eref _ _, v, ℓ, h => by simpa only [Hold, AVal.uniq] using h
  | .sref _, v, ℓ, h => by simpa only [Hold, AVal.uniq] using h
theorem HoldL_of_VL {Own : Owner} {w : World} {ρ : List Nat} {M : Mem} : ∀ (as : List AVal) (vs : List Value) (i : Nat) (ℓ : List Nat → Loc), VL ρ M as vs → HoldL Own w ρ M ℓ i as vs
  | [], [], _, _, _ => by simp only [HoldL]
  | a :: as, v :: vs, i, ℓ, h => by
    simp only [VL] at h
    simp only [HoldL]
    exact ⟨Hold_of_V a v _ h.1, HoldL_of_VL as vs (i + 1) ℓ h.2⟩
  | [], _ :: _, _, _, h => by simp only [VL] at h
  | _ :: _, [], _, _, h => by simp only [VL] at h
end

theorem pureL_cons {a : AVal} {l : List AVal} : pureL (a :: l) = true ↔ a.pure = true ∧ pureL l = true := by
  rw [pureL.eq_def]; cases h : a.pure <;> simp [h]

mutual
theorem V_of_Hold {Own : Owner} {w : World} {ρ : List Nat} {M : Mem} : ∀ (a : AVal) (v : Value) (ℓ : List Nat → Loc), a.pure = true → Hold Own w ρ M ℓ a v → V ρ M a v
  | .agg cs, v, ℓ, hp, h => by
    simp only [Hold] at h
    simp only [V]
    obtain ⟨vs, hv, hl, h1⟩ := h
    exact ⟨vs, hv, VL_of_HoldL cs vs 0 ℓ (by simpa only [AVal.pure] using hp) hl, h1⟩
  | .tup cs, v, ℓ, hp, h => by
    simp only [Hold] at h
    simp only [V]
    obtain ⟨vs, hv, hl⟩ := h
    exact ⟨vs, hv, VL_of_HoldL cs vs 0 ℓ (by simpa only [AVal.pure] using hp) hl⟩
  | .ints u k l, v, ℓ, hp, h => by
    have hu : u = false := by simpa [AVal.pure] using hp
    subst hu; simpa only [Hold, AVal.uniq] using h
  | .strs u l, v, ℓ, hp, h => by
    have hu : u = false := by simpa [AVal.pure] using hp
    subst hu; simpa only [Hold, AVal.uniq] using h
  | .strs2 u l, v, ℓ, hp, h => by
    have hu : u = false := by simpa [AVal.pure] using hp
    subst hu; simpa only [Hold, AVal.uniq] using h
  | .rows u z l, v, ℓ, hp, h => by
    have hu : u = false := by simpa [AVal.pure] using hp
    subst hu; simpa only [Hold, AVal.uniq] using h
  | .undef, v, ℓ, hp, h => by simpa only [Hold, AVal.uniq] using h
  | .bool _, v, ℓ, hp, h => by simpa only [Hold, AVal.uniq] using h
  | .int _ _, v, ℓ, hp, h => by simpa only [Hold, AVal.uniq] using h
  | .str _, v, ℓ, hp, h => by simpa only [Hold, AVal.uniq] using h
  | .nilp, v, ℓ, hp, h => by simpa only [Hold, AVal.uniq] using h
  | .ptr _ _, v, ℓ, hp, h => by simpa only [Hold, AVal.uniq] using h
  | .rptr _, v, ℓ, hp, h => by simpa only [Hold, AVal.uniq] using h
  | .slen _, v, ℓ, hp, h => by simpa only [Hold, AVal.uniq] using h
  | .fn _ _, v, ℓ, hp, h => by simpa only [Hold, AVal.uniq] using h
  | .nilf, v, ℓ, hp, h => by simpa only [Hold, AVal.uniq] using h
  | .nili, v, ℓ, hp, h => by simpa only [Hold, AVal.uniq] using h
  | .eref _ _, v, ℓ, hp, h => by simpa only [Hold, AVal.uniq] using h
  | .sref _, v, ℓ, hp, h => by simpa only [Hold, AVal.uniq] using h
theorem VL_of_HoldL {Own : Owner} {w : World} {ρ : List Nat} {M : Mem} : ∀ (as : List AVal) (vs : List Value) (i : Nat) (ℓ : List Nat → Loc), pureL as = true → HoldL Own w ρ M ℓ i as vs → VL ρ M as vs
  | [], [], _, _, _, _ => by simp only [VL]
  | a :: as, v :: vs, i, ℓ, hp, h => by
    simp only [HoldL] at h
    simp only [VL]
    exact ⟨V_of_Hold a v _ (pureL_cons.1 hp).1 h.1, VL_of_HoldL as vs (i + 1) ℓ (pureL_cons.1 hp).2 h.2⟩
  | [], _ :: _, _, _, _, h => by simp only [HoldL] at h
  | _ :: _, [], _, _, _, h => by simp only [HoldL] at h
end

/-! ### laying open: what a place owns is claimed -/
open Classical in
noncomputable def openM (Own : Owner) (w : World) (ℓ : List Nat → Loc) (M : Mem) : Mem := fun g o =>
  if ∃ p, Own g = some (ℓ p) then (match w.cell? ⟨g, o, none⟩ with
    | some c => if c.oneCell' = true then some c else none
    | none => none) else M g o
open Classical in
noncomputable def openO (Own : Owner) (ℓ : List Nat → Loc) : Owner := fun g => if ∃ p, Own g = some (ℓ p) then none else Own g

theorem openM_le {Own : Owner} {w : World} {ℓ : List Nat → Loc} {M : Mem} (hw : WI Own M w) : MLe M (openM Own w ℓ M) := by
  intro g o c hc
  unfold openM
  split
  · rename_i h; obtain ⟨p, hp⟩ := h; rw [hw.free g _ hp o] at hc; cases hc
  · exact hc

theorem openM_at {Own : Owner} {w : World} {ℓ : List Nat → Loc} {M : Mem} {g o : Nat} {p : List Nat} {c : Value} (hg : Own g = some (ℓ p)) (hc : w.cell? ⟨g, o, none⟩ = some c) (h1 : c.oneCell' = true) : openM Own w ℓ M g o = some c := by
  unfold openM
  rw [if_pos ⟨p, hg⟩, hc]
  simp [h1]

theorem open_wi {Own : Owner} {w : World} {ℓ : List Nat → Loc} {M : Mem} (hw : WI Own M w) : WI (openO Own ℓ) (openM Own w ℓ M) w := by
  refine ⟨fun g o c hc => ?_, fun g q hg o => ?_, fun g q hg => ?_⟩
  · unfold openM at hc
    split at hc
    · cases hx : w.cell? ⟨g, o, none⟩ with
      | none => simp [hx] at hc
      | some d =>
        simp only [hx] at hc
        split at hc
        · rename_i h1; cases hc; exact ⟨rfl, h1⟩
        · cases hc
    · exact hw.agree g o c hc
  · unfold openO at hg
    split at hg
    · cases hg
    · rename_i hn
      unfold openM
      rw [if_neg hn]
      exact hw.free g q hg o
  · unfold openO at hg
    split at hg
    · cases hg
    · exact hw.lt g q hg

theorem openO_none {Own : Owner} {ℓ : List Nat → Loc} {g : Nat} {q : Loc} (h : openO Own ℓ g = some q) : Own g = some q ∧ ∀ p, q ≠ ℓ p := by
  unfold openO at h
  split at h
  · cases h
  · rename_i hn; exact ⟨h, fun p hp => hn ⟨p, hp ▸ h⟩⟩
theorem openO_some {Own : Owner} {ℓ : List Nat → Loc} {g : Nat} {q : Loc} (h : Own g = some q) (hq : ∀ p, q ≠ ℓ p) : openO Own ℓ g = some q := by
  unfold openO
  rw [if_neg (fun ⟨p, hp⟩ => hq p (by rw [hp] at h; exact (Option.some.inj h).symm))]
  exact h

theorem cellPs_fz (ρ : List Nat) (M : Mem) (a : AVal) (hs : a.isSl = true) : cellPs ρ M a.fz = cellPs ρ M a ∧ a.fz.num = a.num ∧ (a.fz.wide ↔ a.wide) ∧ a.fz.isSl = true ∧ a.fz.uniq = false := by
  cases a <;> simp_all [AVal.isSl, AVal.fz, cellPs, AVal.num, AVal.wide, AVal.uniq]

/-- A slice of one's own, its block claimed. -/
theorem HoldU.opened {Own : Owner} {w : World} {ρ : List Nat} {M M' : Mem} {ℓ : Loc} {a : AVal} {v : Value} (hs : a.isSl = true) (hM : MLe M M')
    (hg : ∀ g o c, Own g = some ℓ → w.cell? ⟨g, o, none⟩ = some c → c.oneCell' = true → M' g o = some c) (h : HoldU Own w ρ M ℓ a v) : V ρ M' a.fz v := by
  obtain ⟨hw, base, cap, hv, hl, hc⟩ := h
  obtain ⟨e1, e2, e3, e4, e5⟩ := cellPs_fz ρ M' a hs
  rw [V_laid e4]
  refine ⟨e5, e3.2 hw, base, cap, by rw [e2]; exact hv, by rw [e2]; exact hl, ?_⟩
  rw [e1]
  rcases hc with ⟨hb, h0⟩ | ⟨g, o, hb, ho, arr, e, fz, ha, hfz, hsz, hr⟩
  · have : a.num = 0 := by omega
    refine .inl ?_
    cases a <;> simp_all [AVal.num, cellPs, AVal.isSl]
  · refine .inr ⟨g, o, hb, fun i p hp => ?_⟩
    obtain ⟨q, hq, hqp⟩ := cellPs_mono (Ext.refl ρ) hM a i p hp
    obtain ⟨c, h1, h2, h3⟩ := hr i q hq
    exact ⟨c, hg g (o + i) c ho (by simp [World.cell?, ha, h1]) h2, hqp c h3⟩

mutual
theorem Hold_opened {Own : Owner} {w : World} {ρ : List Nat} {M M' : Mem} (hM : MLe M M') : ∀ (a : AVal) (v : Value) (ℓ : List Nat → Loc),
    (∀ g o c p, Own g = some (ℓ p) → w.cell? ⟨g, o, none⟩ = some c → c.oneCell' = true → M' g o = some c) → Hold Own w ρ M ℓ a v → V ρ M' a.fz v
  | .agg cs, v, ℓ, hg, h => by
    simp only [Hold] at h
    simp only [AVal.fz, V]
    obtain ⟨vs, hv, hl, h1⟩ := h
    exact ⟨vs, hv, HoldL_opened hM cs vs 0 ℓ hg hl, h1⟩
  | .tup cs, v, ℓ, hg, h => by
    simp only [Hold] at h
    simp only [AVal.fz, V]
    obtain ⟨vs, hv, hl⟩ := h
    exact ⟨vs, hv, HoldL_opened hM cs vs 0 ℓ hg hl⟩
  | .ints u k l, v, ℓ, hg, h => by
    cases u <;> simp only [Hold, AVal.uniq] at h
    · exact V_mono (Ext.refl ρ) hM _ v h
    · exact h.opened rfl hM (fun g o c => hg g o c [])
  | .strs u l, v, ℓ, hg, h => by
    cases u <;> simp only [Hold, AVal.uniq] at h
    · exact V_mono (Ext.refl ρ) hM _ v h
    · exact h.opened rfl hM (fun g o c => hg g o c [])
  | .strs2 u l, v, ℓ, hg, h => by
    cases u <;> simp only [Hold, AVal.uniq] at h
    · exact V_mono (Ext.refl ρ) hM _ v h
    · exact h.opened rfl hM (fun g o c => hg g o c [])
  | .rows u z l, v, ℓ, hg, h => by
    cases u <;> simp only [Hold, AVal.uniq] at h
    · exact V_mono (Ext.refl ρ) hM _ v h
    · exact h.opened rfl hM (fun g o c => hg g o c [])
  | .undef, v, ℓ, hg, h => by simp only [Hold, AVal.uniq] at h; exact V_mono (Ext.refl ρ) hM _ v h
  | .bool _, v, ℓ, hg, h => by simp only [Hold, AVal.uniq] at h; exact V_mono (Ext.refl ρ) hM _ v h
  | .int _ _, v, ℓ, hg, h => by simp only [Hold, AVal.uniq] at h; exact V_mono (Ext.refl ρ) hM _ v h
  | .str _, v, ℓ, hg, h => by simp only [Hold, AVal.uniq] at h; exact V_mono (Ext.refl ρ) hM _ v h
  | .nilp, v, ℓ, hg, h => by simp only [Hold, AVal.uniq] at h; exact V_mono (Ext.refl ρ) hM _ v h
  | .ptr _ _, v, ℓ, hg, h => by simp only [Hold, AVal.uniq] at h; exact V_mono (Ext.refl ρ) hM _ v h
  | .rptr _, v, ℓ, hg, h => by simp only [Hold, AVal.uniq] at h; exact V_mono (Ext.refl ρ) hM _ v h
  | .slen _, v, ℓ, hg, h => by simp only [Hold, AVal.uniq] at h; exact V_mono (Ext.refl ρ) hM _ v h
  | .fn _ _, v, ℓ, hg, h => by simp only [Hold, AVal.uniq] at h; exact V_mono (Ext.refl ρ) hM _ v h
  | .nilf, v, ℓ, hg, h => by simp only [Hold, AVal.uniq] at h; exact V_mono (Ext.refl ρ) hM _ v h
  | .nili, v, ℓ, hg, h => by simp only [Hold, AVal.uniq] at h; exact V_mono (Ext.refl ρ) hM _ v h
  | .eref _ _, v, ℓ, hg, h => by simp only [AVal.fz, V]
  | .sref _, v, ℓ, hg, h => by simp only [AVal.fz, V]
theorem HoldL_opened {Own : Owner} {w : World} {ρ : List Nat} {M M' : Mem} (hM : MLe M M') : ∀ (as : List AVal) (vs : List Value) (i : Nat) (ℓ : List Nat → Loc),
    (∀ g o c p, Own g = some (ℓ p) → w.cell? ⟨g, o, none⟩ = some c → c.oneCell' = true → M' g o = some c) → HoldL Own w ρ M ℓ i as vs → VL ρ M' (fzL as) vs
  | [], [], _, _, _, _ => by simp only [fzL, VL]
  | a :: as, v :: vs, i, ℓ, hg, h => by
    simp only [HoldL] at h
    simp only [fzL, VL]
    exact ⟨Hold_opened hM a v _ (fun g o c p => hg g o c (i :: p)) h.1, HoldL_opened hM as vs (i + 1) ℓ hg h.2⟩
  | [], _ :: _, _, _, _, h => by simp only [HoldL] at h
  | _ :: _, [], _, _, _, h => by simp only [HoldL] at h
end

end Go.Proofs.YtognccpmaljamaaGreatDoor.Sa

/- AS, part S3: the state: a slot set, a value taken, an operand read. -/
namespace Go.Proofs.YtognccpmaljamaaGreatDoor.Sa
open Go
variable [GlobMem]

noncomputable def AVal.ref? : AVal → Option Nat
  | .sref u => some u
  | .eref u _ => some u
  | _ => none

theorem SlotOK_plain {Own : Owner} {w : World} {ρ : List Nat} {M : Mem} {env : List AVal} {tm : Array Value} {ℓ : List Nat → Loc} {a : AVal} {v : Value} (h : a.ref? = none) :
    SlotOK Own w ρ M env tm ℓ a v = Hold Own w ρ M ℓ a v := by
  cases a <;> simp_all [SlotOK, AVal.ref?]

theorem SlotOK.move {Own Own' : Owner} {w w' : World} {ρ ρ' : List Nat} {M M' : Mem} {env env' : List AVal} {tm tm' : Array Value} {ℓ ℓ' : List Nat → Loc} {a : AVal} {v : Value}
    (hρ : Ext ρ ρ') (hM : MLe M M') (hO : ∀ g p, Own g = some (ℓ p) → Own' g = some (ℓ' p) ∧ w'.heap[g]? = w.heap[g]?)
    (hr : ∀ u b, a.ref? = some u → env[u]? = some b → b.uniq = true → ∃ b', env'[u]? = some b' ∧ b'.uniq = true ∧ tm'[u]? = tm[u]?)
    (h : SlotOK Own w ρ M env tm ℓ a v) : SlotOK Own' w' ρ' M' env' tm' ℓ' a v := by
  cases hc : a.ref? with
  | none =>
    rw [SlotOK_plain hc] at h ⊢
    exact Hold_move hρ hM a v ℓ ℓ' hO h
  | some u =>
    cases a <;> simp only [AVal.ref?, reduceCtorEq, Option.some.injEq] at hc
    · subst hc
      simp only [SlotOK] at h ⊢
      obtain ⟨b, hb, hu, g, o, n, cap, ht, hv⟩ := h
      obtain ⟨b', hb', hu', ht'⟩ := hr _ b rfl hb hu
      exact ⟨b', hb', hu', g, o, n, cap, ht' ▸ ht, hv⟩
    · subst hc
      simp only [SlotOK] at h ⊢
      obtain ⟨b, hb, hu, ht⟩ := h
      obtain ⟨b', hb', hu', ht'⟩ := hr _ b rfl hb hu
      exact ⟨b', hb', hu', ht' ▸ ht⟩

theorem SlotOK_undef {Own : Owner} {w : World} {ρ : List Nat} {M : Mem} {env : List AVal} {tm : Array Value} {ℓ : List Nat → Loc} {v : Value} : SlotOK Own w ρ M env tm ℓ .undef v := by
  simp [SlotOK, Hold, AVal.uniq, V]

theorem unref_get (t : Nat) : ∀ (l : List AVal) (i : Nat), (unref t l)[i]? = (l[i]?).map (unref1 t)
  | [], i => by simp [unref]
  | v :: l, i => by cases i <;> simp [unref, unref_get t l]

theorem unref_length (t : Nat) : ∀ (l : List AVal), (unref t l).length = l.length
  | [] => rfl
  | v :: l => by simp [unref, unref_length t l]

theorem unref1_uniq (t : Nat) (v : AVal) (h : v.uniq = true) : unref1 t v = v := by cases v <;> simp_all [unref1, AVal.uniq]

theorem unref1_cases (t : Nat) (v : AVal) : unref1 t v = v ∧ v.ref? ≠ some t ∨ unref1 t v = .undef := by
  cases v <;> simp [unref1, AVal.ref?]
  · rename_i u i
    cases h : Nat.beq u t
    · left; exact ⟨rfl, Nat.ne_of_beq_eq_false h⟩
    · right; rfl
  · rename_i u
    cases h : Nat.beq u t
    · left; exact ⟨rfl, Nat.ne_of_beq_eq_false h⟩
    · right; rfl

theorem getD_of {α : Type} {l : List α} {t : Nat} {a d : α} (h : l[t]? = some a) : l.getD t d = a := by simp [List.getD, h]

theorem S.set_def (s : S) (t : Nat) (v : AVal) : s.set t v = (match (lget s.env t).uniq with
  | true => { s with env := (unref t s.env).set t (unref1 t v) }
  | false => { s with env := s.env.set t v }) := by
  unfold S.set
  simp only [lset_eq]
  cases (lget s.env t).uniq <;> rfl

theorem S.set_length (s : S) (t : Nat) (v : AVal) : (s.set t v).env.length = s.env.length := by
  rw [S.set_def]
  split <;> simp [unref_length]

theorem S.set_heap (s : S) (t : Nat) (v : AVal) : (s.set t v).heap = s.heap := by
  rw [S.set_def]
  split <;> rfl

/-- What lies in the slots behind a set. -/
theorem S.set_get {s : S} {t : Nat} {v : AVal} {i : Nat} {a : AVal} (h : (s.set t v).env[i]? = some a) :
    (i = t ∧ t < s.env.length ∧ (a = v ∧ ((lget s.env t).uniq = true → v.ref? ≠ some t) ∨ a = .undef)) ∨
    (i ≠ t ∧ ∃ b, s.env[i]? = some b ∧ (a = b ∧ ((lget s.env t).uniq = true → b.ref? ≠ some t) ∨ a = .undef)) := by
  rw [S.set_def] at h
  split at h
  · rename_i hu
    rw [List.getElem?_set] at h
    split at h
    · rename_i hit
      left
      refine ⟨hit.symm, ?_⟩
      rw [unref_length] at h
      split at h
      · rename_i hlt
        refine ⟨hlt, ?_⟩
        cases h
        rcases unref1_cases t v with ⟨e, hn⟩ | e
        · exact .inl ⟨e, fun _ => hn⟩
        · exact .inr e
      · cases h
    · rename_i hit
      right
      refine ⟨fun e => hit e.symm, ?_⟩
      rw [unref_get] at h
      cases hb : s.env[i]? with
      | none => simp [hb] at h
      | some b =>
        simp only [hb, Option.map_some, Option.some.injEq] at h
        refine ⟨b, rfl, ?_⟩
        rcases unref1_cases t b with ⟨e, hn⟩ | e
        · exact .inl ⟨by rw [← h, e], fun _ => hn⟩
        · exact .inr (by rw [← h, e])
  · rename_i hu
    rw [List.getElem?_set] at h
    split at h
    · rename_i hit
      left
      refine ⟨hit.symm, ?_⟩
      split at h
      · rename_i hlt; cases h; exact ⟨hlt, .inl ⟨rfl, fun x => by rw [hu] at x; cases x⟩⟩
      · cases h
    · rename_i hit
      right
      exact ⟨fun e => hit e.symm, a, h, .inl ⟨rfl, fun x => by rw [hu] at x; cases x⟩⟩

/-- A slot of one's own that is not set stays. -/
theorem S.set_keeps {s : S} {t : Nat} {v : AVal} {u : Nat} {b : AVal} (hne : u ≠ t) (hb : s.env[u]? = some b) (hu : b.uniq = true) : (s.set t v).env[u]? = some b := by
  rw [S.set_def]
  split
  · simp only [List.getElem?_set]
    rw [if_neg (fun e => hne e.symm), unref_get, hb]
    simp [unref1_uniq t b hu]
  · simp only [List.getElem?_set]
    rw [if_neg (fun e => hne e.symm), hb]

/-- The slot that is set. -/
theorem S.set_self {s : S} {t : Nat} {v : AVal} (h : t < s.env.length) (hr : v.ref? = none) : (s.set t v).env[t]? = some v := by
  have : ∀ t, unref1 t v = v := fun t => by cases v <;> simp_all [unref1, AVal.ref?]
  rw [S.set_def]
  split <;> simp [unref_length, h, this]

/-- Owners by another word for a place. -/
noncomputable def Owner.mv (f : Loc → Loc) (Own : Owner) : Owner := fun g => (Own g).map f

theorem Owner.mv_some {f : Loc → Loc} {Own : Owner} {g : Nat} {ℓ : Loc} (h : Own.mv f g = some ℓ) : ∃ q, Own g = some q ∧ f q = ℓ := by
  unfold Owner.mv at h
  cases hq : Own g with
  | none => simp [hq] at h
  | some q => simp [hq] at h; exact ⟨q, rfl, h⟩

theorem WI.mv {f : Loc → Loc} {Own : Owner} {M : Mem} {w : World} (h : WI Own M w) : WI (Own.mv f) M w :=
  ⟨h.agree, fun g ℓ hg o => let ⟨q, hq, _⟩ := Owner.mv_some hg; h.free g q hq o, fun g ℓ hg => let ⟨q, hq, _⟩ := Owner.mv_some hg; h.lt g q hq⟩

theorem BlkAt.move {Own Own' : Owner} {w w' : World} {ρ ρ' : List Nat} {M M' : Mem} {b : Nat} {cs : List AVal} (hρ : Ext ρ ρ') (hM : MLe M M')
    (hv : ∀ g, Own g = some (.var b) → Own' g = some (.var b) ∧ w'.heap[g]? = w.heap[g]?)
    (hO : ∀ g o, Own g = some (.cell b o) → Own' g = some (.cell b o) ∧ w'.heap[g]? = w.heap[g]?) (h : BlkAt Own w ρ M b cs) : BlkAt Own' w' ρ' M' b cs := by
  obtain ⟨g, arr, e, h1, h2, h3, h4, h5⟩ := h
  refine ⟨g, arr, e, hρ _ _ h1, (hv g h2).1, (hv g h2).2 ▸ h3, h4, fun o a v ha hv' => ?_⟩
  obtain ⟨k1, k2⟩ := h5 o a v ha hv'
  exact ⟨k1, Hold_move hρ hM a v _ _ (fun g _ hg => hO g o hg) k2⟩

section
variable {B : Base} {s : S} {tm : Array Value} {w : World} {Own : Owner} {ρ : List Nat} {M : Mem}

/-- The owners' words turned, the slots' and blocks' own words standing. -/
theorem RS.mv (h : RS B s tm w Own ρ M) (f : Loc → Loc) (h1 : ∀ t p, f (.slot t p) = .slot t p) (h2 : ∀ b, f (.var b) = .var b) (h3 : ∀ b o, f (.cell b o) = .cell b o) : RS B s tm w (Own.mv f) ρ M where
  wi := h.wi.mv
  fr := h.fr
  mle := h.mle
  glob := h.glob
  ext := h.ext
  own0 g ℓ hg := let ⟨q, hq, _⟩ := Owner.mv_some hg; h.own0 g q hq
  mnew := h.mnew
  len := h.len
  env t a v ha hv := (h.env t a v ha hv).move (Ext.refl _) (MLe.refl _) (fun g p hg => ⟨by simp [Owner.mv, hg, h1], rfl⟩) (fun u b _ hb hu => ⟨b, hb, hu, rfl⟩)
  hlen := h.hlen
  heap b cs hb hne := (h.heap b cs hb hne).move (Ext.refl _) (MLe.refl _) (fun g hg => ⟨by simp [Owner.mv, hg, h2], rfl⟩) (fun g o hg => ⟨by simp [Owner.mv, hg, h3], rfl⟩)

noncomputable def flyTo (d : Nat) : Loc → Loc
  | .fly 0 p => .slot d p
  | q => q

/-- A value under way laid into a slot. -/
theorem RS.put (h : RS B s tm w Own ρ M) {a : AVal} {v : Value} (hf : SlotOK Own w ρ M s.env tm (.fly 0) a v) (d : Nat) :
    ∃ Own', RS B (s.set d a) (tm.setIfInBounds d v) w Own' ρ M := by
  by_cases hd : d < s.env.length
  · refine ⟨Own.mv (flyTo d), h.wi.mv, h.fr, h.mle, h.glob, h.ext, fun g ℓ hg => let ⟨q, hq, _⟩ := Owner.mv_some hg; h.own0 g q hq, h.mnew, ?_, ?_, by rw [S.set_heap]; exact h.hlen, ?_⟩
    · rw [S.set_length, Array.size_setIfInBounds]; exact h.len
    · intro t x u hx hu
      have keepRef : ∀ (y : AVal), ((lget s.env d).uniq = true → y.ref? ≠ some d) → ∀ u' b, y.ref? = some u' → s.env[u']? = some b → b.uniq = true →
          ∃ b', (s.set d a).env[u']? = some b' ∧ b'.uniq = true ∧ (tm.setIfInBounds d v)[u']? = tm[u']? := by
        intro y hy u' b hr hb hu'
        have hne : u' ≠ d := fun e => by
          subst e
          exact hy (by rw [lget_of hb]; exact hu') hr
        exact ⟨b, S.set_keeps hne hb hu', hu', by rw [Array.getElem?_setIfInBounds]; rw [if_neg (fun e => hne e.symm)]⟩
      rcases S.set_get hx with ⟨rfl, _, hc⟩ | ⟨hne, b, hb, hc⟩
      · have : u = v := by
          rw [Array.getElem?_setIfInBounds, if_pos rfl, if_pos (by rw [h.len]; exact hd)] at hu
          exact (Option.some.inj hu).symm
        subst this
        rcases hc with ⟨rfl, hr⟩ | rfl
        · exact hf.move (Ext.refl _) (MLe.refl _) (fun g p hg => ⟨by simp [Owner.mv, hg, flyTo], rfl⟩) (keepRef _ hr)
        · exact SlotOK_undef
      · rw [Array.getElem?_setIfInBounds, if_neg (fun e => hne e.symm)] at hu
        rcases hc with ⟨rfl, hr⟩ | rfl
        · exact (h.env t _ u hb hu).move (Ext.refl _) (MLe.refl _) (fun g p hg => ⟨by simp [Owner.mv, hg, flyTo], rfl⟩) (keepRef _ hr)
        · exact SlotOK_undef
    · intro b cs hb hne
      rw [S.set_heap] at hb
      exact (h.heap b cs hb hne).move (Ext.refl _) (MLe.refl _) (fun g hg => ⟨by simp [Owner.mv, hg, flyTo], rfl⟩) (fun g o hg => ⟨by simp [Owner.mv, hg, flyTo], rfl⟩)
  · have hd' : ¬ d < tm.size := by rw [h.len]; exact hd
    have e1 : tm.setIfInBounds d v = tm := by simp [Array.setIfInBounds, hd']
    have e2 : (s.set d a) = s := by
      have hn : s.env[d]? = none := List.getElem?_eq_none (by omega)
      rw [S.set_def]
      simp [List.getD, hn, AVal.uniq]
      rw [List.set_eq_of_length_le (by omega)]
    rw [e1, e2]
    exact ⟨Own, h⟩

/-- A slot forgotten. -/
theorem RS.forget (h : RS B s tm w Own ρ M) (d : Nat) : RS B (s.set d .undef) tm w Own ρ M where
  wi := h.wi
  fr := h.fr
  mle := h.mle
  glob := h.glob
  ext := h.ext
  own0 := h.own0
  mnew := h.mnew
  len := by rw [S.set_length]; exact h.len
  env t x u hx hu := by
    rcases S.set_get hx with ⟨rfl, _, hc⟩ | ⟨hne, b, hb, hc⟩
    · rcases hc with ⟨rfl, _⟩ | rfl <;> exact SlotOK_undef
    · rcases hc with ⟨rfl, hr⟩ | rfl
      · refine (h.env t _ u hb hu).move (Ext.refl _) (MLe.refl _) (fun g p hg => ⟨hg, rfl⟩) fun u' b' hr' hb' hu' => ?_
        have hne' : u' ≠ d := fun e => by subst e; exact hr (by rw [lget_of hb']; exact hu') hr'
        exact ⟨b', S.set_keeps hne' hb' hu', hu', rfl⟩
      · exact SlotOK_undef
  hlen := by rw [S.set_heap]; exact h.hlen
  heap b cs hb hne := h.heap b cs (by rwa [S.set_heap] at hb) hne

noncomputable def slotTo (d : Nat) : Loc → Loc
  | .slot t p => if t = d then .fly 0 p else .slot t p
  | q => q

/-- A slot's value taken. -/
theorem RS.take' (h : RS B s tm w Own ρ M) {d : Nat} {a : AVal} {v : Value} (ha : s.env[d]? = some a) (hv : tm[d]? = some v) :
    ∃ Own', RS B (s.set d .undef) tm w Own' ρ M ∧ SlotOK Own' w ρ M (s.set d .undef).env tm (.fly 0) a v ∧ ∀ g k p, Own g = some (.fly k p) → Own' g = some (.fly k p) := by
  have hF := h.forget d
  have hs := h.env d a v ha hv
  refine ⟨Own.mv (slotTo d), ⟨hF.wi.mv, hF.fr, hF.mle, hF.glob, hF.ext, fun g ℓ hg => let ⟨q, hq, _⟩ := Owner.mv_some hg; hF.own0 g q hq, hF.mnew, hF.len, ?_, hF.hlen, ?_⟩, ?_, fun g k p hg => by simp [Owner.mv, hg, slotTo]⟩
  · intro t x u hx hu
    by_cases e : t = d
    · subst e
      have : x = .undef := by
        rcases S.set_get hx with ⟨_, _, hc⟩ | ⟨hne, _⟩
        · rcases hc with ⟨rfl, _⟩ | rfl <;> rfl
        · exact absurd rfl hne
      subst this
      exact SlotOK_undef
    · exact (hF.env t x u hx hu).move (Ext.refl _) (MLe.refl _) (fun g p hg => ⟨by simp [Owner.mv, hg, slotTo, e], rfl⟩) (fun u' b _ hb hu' => ⟨b, hb, hu', rfl⟩)
  · intro b cs hb hne
    exact (hF.heap b cs hb hne).move (Ext.refl _) (MLe.refl _) (fun g hg => ⟨by simp [Owner.mv, hg, slotTo], rfl⟩) (fun g o hg => ⟨by simp [Owner.mv, hg, slotTo], rfl⟩)
  · refine hs.move (Ext.refl _) (MLe.refl _) (fun g p hg => ⟨by simp [Owner.mv, hg, slotTo], rfl⟩) fun u b hr hb hu => ?_
    have hne : u ≠ d := fun e => by
      subst e
      rw [ha] at hb; cases hb
      cases a <;> simp_all [AVal.ref?, AVal.uniq]
    exact ⟨b, S.set_keeps hne hb hu, hu, rfl⟩

theorem RS.take (h : RS B s tm w Own ρ M) {d : Nat} {a : AVal} {v : Value} (ha : s.env[d]? = some a) (hv : tm[d]? = some v) :
    ∃ Own', RS B (s.set d .undef) tm w Own' ρ M ∧ SlotOK Own' w ρ M (s.set d .undef).env tm (.fly 0) a v := let ⟨O, h1, h2, _⟩ := h.take' ha hv; ⟨O, h1, h2⟩

/-- What is under way laid open. -/
theorem RS.opened (h : RS B s tm w Own ρ M) {a : AVal} {v : Value} (k : Nat) (hf : SlotOK Own w ρ M s.env tm (.fly k) a v) :
    ∃ Own' M', RS B s tm w Own' ρ M' ∧ V ρ M' a.fz v ∧ MLe M M' ∧ ∀ g ℓ, Own g = some ℓ → (∀ p, ℓ ≠ .fly k p) → Own' g = some ℓ := by
  have hM := openM_le (ℓ := Loc.fly k) h.wi
  refine ⟨openO Own (.fly k), openM Own w (.fly k) M, ⟨open_wi h.wi, h.fr, h.mle.trans hM, h.glob.trans hM, h.ext, fun g ℓ hg => h.own0 g ℓ (openO_none hg).1, ?_, h.len, ?_, h.hlen, ?_⟩, ?_, hM, fun g ℓ hg hn => openO_some hg hn⟩
  · intro g o c hc
    unfold openM at hc
    split at hc
    · rename_i hx; obtain ⟨p, hp⟩ := hx; exact .inr (h.own0 g _ hp)
    · exact h.mnew g o c hc
  · intro t x u hx hu
    exact (h.env t x u hx hu).move (Ext.refl _) hM (fun g p hg => ⟨openO_some hg (fun q => by simp), rfl⟩) (fun u' b _ hb hu' => ⟨b, hb, hu', rfl⟩)
  · intro b cs hb hne
    exact (h.heap b cs hb hne).move (Ext.refl _) hM (fun g hg => ⟨openO_some hg (fun q => by simp), rfl⟩) (fun g o hg => ⟨openO_some hg (fun q => by simp), rfl⟩)
  · cases hr : a.ref? with
    | none =>
      rw [SlotOK_plain hr] at hf
      exact Hold_opened hM a v _ (fun g o c p hg hc h1 => openM_at hg hc h1) hf
    | some u => cases a <;> simp_all [AVal.ref?, AVal.fz, V]

/-- A slot's value laid open where it lies. -/
theorem RS.fzSlot (h : RS B s tm w Own ρ M) (d : Nat) : ∃ Own' M', RS B (s.set d (lget s.env d).fz) tm w Own' ρ M' := by
  cases ha : s.env[d]? with
  | none =>
    refine ⟨Own, M, ?_⟩
    have : s.set d (lget s.env d).fz = s := by
      rw [S.set_def]
      simp [List.getD, ha, AVal.uniq]
      rw [List.set_eq_of_length_le (by simpa using ha)]
    rw [this]; exact h
  | some a =>
    rw [lget_of ha]
    have hd : d < s.env.length := (List.getElem?_eq_some_iff.1 ha).1
    have hd' : d < tm.size := by rw [h.len]; exact hd
    obtain ⟨O1, h1, hf1⟩ := h.take ha (Array.getElem?_eq_getElem hd')
    obtain ⟨O2, M2, h2, hv2, _, _⟩ := h1.opened 0 hf1
    have hz : (a.fz).ref? = none := by cases a <;> simp [AVal.fz, AVal.ref?]
    obtain ⟨O3, h3⟩ := h2.put (a := a.fz) (v := tm[d]) (by rw [SlotOK_plain hz]; exact Hold_of_V _ _ _ hv2) d
    have e1 : tm.setIfInBounds d tm[d] = tm := by
      apply Array.ext_getElem?
      intro i
      rw [Array.getElem?_setIfInBounds]
      split
      · rename_i e; subst e; simp [Array.getElem?_eq_getElem hd']
      · rfl
    rw [e1] at h3
    refine ⟨O3, M2, ?_⟩
    -- the same slots: once forgotten and once set, or set at once
    have e2 : (s.set d .undef).set d a.fz = s.set d a.fz := by
      have hz' : ∀ t, unref1 t a.fz = a.fz := fun t => by cases a <;> simp [AVal.fz, unref1]
      rw [S.set_def (s.set d .undef), S.set_def s d .undef, S.set_def s d a.fz]
      rw [lget_of ha]
      cases hu : a.uniq
      · simp [List.getD, hd, AVal.uniq]
      · have hz0 : ∀ t, unref1 t .undef = .undef := fun _ => rfl
        simp [List.getD, hd, AVal.uniq, unref_length, hz', hz0]
    rw [e2] at h3
    exact h3

theorem RS.fzSlots : ∀ (ts : List Nat) {s : S} {Own : Owner} {M : Mem}, RS B s tm w Own ρ M → ∃ Own' M', RS B (s.fzSlots ts) tm w Own' ρ M'
  | [], s, Own, M, h => ⟨Own, M, h⟩
  | t :: ts, s, Own, M, h => by
    obtain ⟨O1, M1, h1⟩ := h.fzSlot t
    exact RS.fzSlots ts h1
end

/-! ### operands -/
theorem ofV_hold (Own : Owner) (w : World) (ρ : List Nat) (M : Mem) (ℓ : List Nat → Loc) (d : Option TD) (c : Value) : Hold Own w ρ M ℓ (ofV d c) c ∧ (ofV d c).ref? = none := by
  unfold ofV
  split
  · simp [Hold, AVal.uniq, V, AVal.ref?]
  · simp [Hold, AVal.uniq, V, AVal.ref?]
  · simp [Hold, AVal.uniq, V, AVal.ref?, strV]
  · simp [Hold, AVal.uniq, V, AVal.ref?]
  · split
    · split
      · rename_i sk _
        cases sk <;> simp [SK.empty, Hold, AVal.uniq, HoldU, AVal.wide, OwnSl, AVal.num, AVal.wid, AVal.ref?] <;> exact ⟨none, 0, ⟨rfl, rfl⟩, .inl ⟨rfl, rfl⟩⟩
      · simp [Hold, AVal.uniq, V, AVal.ref?]
    · simp [Hold, AVal.uniq, V, AVal.ref?]
  · simp [Hold, AVal.uniq, V, AVal.ref?]
  · simp [Hold, AVal.uniq, V, AVal.ref?]
  · simp [Hold, AVal.uniq, V, AVal.ref?]

mutual
theorem V_lens {Own : Owner} {w : World} {ρ : List Nat} {M : Mem} : ∀ (a : AVal) (v : Value) (ℓ : List Nat → Loc), Hold Own w ρ M ℓ a v → V ρ M a.lens v
  | .agg cs, v, ℓ, h => by
    simp only [Hold] at h
    simp only [AVal.lens, V]
    obtain ⟨vs, hv, hl, h1⟩ := h
    exact ⟨vs, hv, VL_lens cs vs 0 ℓ hl, h1⟩
  | .tup cs, v, ℓ, h => by
    simp only [Hold] at h
    simp only [AVal.lens, V]
    obtain ⟨vs, hv, hl⟩ := h
    exact ⟨vs, hv, VL_lens cs vs 0 ℓ hl⟩
  | .ints u k l, v, ℓ, h => by
    cases u <;> simp only [Hold, AVal.uniq, V, HoldU, OwnSl] at h <;> simp only [AVal.lens, V]
    · obtain ⟨_, base, cap, hv, _⟩ := h; exact ⟨base, cap, hv⟩
    · obtain ⟨_, base, cap, hv, _⟩ := h; exact ⟨base, cap, hv⟩
  | .strs u l, v, ℓ, h => by
    cases u <;> simp only [Hold, AVal.uniq, V, HoldU, OwnSl] at h <;> simp only [AVal.lens, V]
    · obtain ⟨_, base, cap, hv, _⟩ := h; exact ⟨base, cap, hv⟩
    · obtain ⟨_, base, cap, hv, _⟩ := h; exact ⟨base, cap, hv⟩
  | .strs2 u l, v, ℓ, h => by
    cases u <;> simp only [Hold, AVal.uniq, V, HoldU, OwnSl] at h <;> simp only [AVal.lens, V]
    · obtain ⟨_, base, cap, hv, _⟩ := h; exact ⟨base, cap, hv⟩
    · obtain ⟨_, base, cap, hv, _⟩ := h; exact ⟨base, cap, hv⟩
  | .rows u z l, v, ℓ, h => by
    cases u <;> simp only [Hold, AVal.uniq, V, HoldU, OwnSl] at h <;> simp only [AVal.lens, V]
    · obtain ⟨_, _, base, cap, hv, _⟩ := h; exact ⟨base, cap, hv⟩
    · obtain ⟨_, base, cap, hv, _⟩ := h; exact ⟨base, cap, hv⟩
  | .undef, v, ℓ, h => by simpa only [Hold, AVal.uniq, AVal.lens] using h
  | .bool _, v, ℓ, h => by simpa only [Hold, AVal.uniq, AVal.lens] using h
  | .int _ _, v, ℓ, h => by simpa only [Hold, AVal.uniq, AVal.lens] using h
  | .str _, v, ℓ, h => by simpa only [Hold, AVal.uniq, AVal.lens] using h
  | .nilp, v, ℓ, h => by simpa only [Hold, AVal.uniq, AVal.lens] using h
  | .ptr _ _, v, ℓ, h => by simpa only [Hold, AVal.uniq, AVal.lens] using h
  | .rptr _, v, ℓ, h => by simpa only [Hold, AVal.uniq, AVal.lens] using h
  | .slen _, v, ℓ, h => by simpa only [Hold, AVal.uniq, AVal.lens] using h
  | .fn _ _, v, ℓ, h => by simpa only [Hold, AVal.uniq, AVal.lens] using h
  | .nilf, v, ℓ, h => by simpa only [Hold, AVal.uniq, AVal.lens] using h
  | .nili, v, ℓ, h => by simpa only [Hold, AVal.uniq, AVal.lens] using h
  | .eref _ _, v, ℓ, h => by simp only [AVal.lens, V]
  | .sref _, v, ℓ, h => by simp only [AVal.lens, V]
theorem VL_lens {Own : Owner} {w : World} {ρ : List Nat} {M : Mem} : ∀ (as : List AVal) (vs : List Value) (i : Nat) (ℓ : List Nat → Loc), HoldL Own w ρ M ℓ i as vs → VL ρ M (lensL as) vs
  | [], [], _, _, _ => by simp only [lensL, VL]
  | a :: as, v :: vs, i, ℓ, h => by
    simp only [HoldL] at h
    simp only [lensL, VL]
    exact ⟨V_lens a v _ h.1, VL_lens as vs (i + 1) ℓ h.2⟩
  | [], _ :: _, _, _, h => by simp only [HoldL] at h
  | _ :: _, [], _, _, h => by simp only [HoldL] at h
end

theorem lens_ref (a : AVal) : a.lens.ref? = none := by cases a <;> simp [AVal.lens, AVal.ref?]
theorem fz_ref (a : AVal) : a.fz.ref? = none := by cases a <;> simp [AVal.fz, AVal.ref?]
theorem pure_ref {a : AVal} (h : a.pure = true) : a.ref? = none := by cases a <;> simp_all [AVal.pure, AVal.ref?]

/-- A value under way beside a state. -/
noncomputable def RF (B : Base) (s : S) (tm : Array Value) (w : World) (a : AVal) (v : Value) : Prop :=
  ∃ Own ρ M, RS B s tm w Own ρ M ∧ SlotOK Own w ρ M s.env tm (.fly 0) a v

noncomputable def RSx (B : Base) (s : S) (tm : Array Value) (w : World) : Prop := ∃ Own ρ M, RS B s tm w Own ρ M

theorem RF.rs {B : Base} {s : S} {tm : Array Value} {w : World} {a : AVal} {v : Value} (h : RF B s tm w a v) : RSx B s tm w := let ⟨O, ρ, M, h, _⟩ := h; ⟨O, ρ, M, h⟩

/-- What an operand evaluates to. -/
theorem rdo_ok {B : Base} {s : S} {a : Act} {w : World} {Own : Owner} {ρ : List Nat} {M : Mem} (h : RS B s a.tmps w Own ρ M) (d : Option TD) (x : Operand) :
    match x with
    | .tmp t => s.env[t]? = some (s.rdo d x) ∧ a.tmps[t]? = some (a.eval x) ∨ s.rdo d x = .undef
    | _ => Hold Own w ρ M (.fly 0) (s.rdo d x) (a.eval x) ∧ (s.rdo d x).ref? = none := by
  cases x with
  | tmp t =>
    simp only [S.rdo, Act.eval]
    cases hx : s.env[t]? with
    | none => right; simp [List.getD, hx]
    | some b =>
      left
      have ht : t < a.tmps.size := by rw [h.len]; exact (List.getElem?_eq_some_iff.1 hx).1
      simp [List.getD, hx, Array.getD, ht]
  | const c => simp only [S.rdo, Act.eval]; exact ofV_hold Own w ρ M _ d c
  | global g => simp [S.rdo, Hold, AVal.uniq, V, AVal.ref?]
  | func f => simp [S.rdo, Hold, AVal.uniq, V, AVal.ref?, Act.eval, VL]

theorem rdo_pure {B : Base} {s : S} {a : Act} {w : World} {Own : Owner} {ρ : List Nat} {M : Mem} (h : RS B s a.tmps w Own ρ M) (d : Option TD) (x : Operand) (hp : (s.rdo d x).pure = true) :
    V ρ M (s.rdo d x) (a.eval x) := by
  have hk := rdo_ok h d x
  cases x with
  | tmp t =>
    rcases hk with ⟨h1, h2⟩ | h1
    · have := h.env t _ _ h1 h2
      rw [SlotOK_plain (pure_ref hp)] at this
      exact V_of_Hold _ _ _ hp this
    · rw [h1]; simp [V]
  | const c => exact V_of_Hold _ _ _ hp hk.1
  | global g => exact V_of_Hold _ _ _ hp hk.1
  | func f => exact V_of_Hold _ _ _ hp hk.1

theorem RF.of_V {B : Base} {s : S} {tm : Array Value} {w : World} {Own : Owner} {ρ : List Nat} {M : Mem} {a : AVal} {v : Value} (h : RS B s tm w Own ρ M) (hv : V ρ M a v) (hr : a.ref? = none) : RF B s tm w a v :=
  ⟨Own, ρ, M, h, by rw [SlotOK_plain hr]; exact Hold_of_V _ _ _ hv⟩

theorem V_ref {ρ : List Nat} {M : Mem} {a : AVal} {v : Value} (h : V ρ M a v) : a.ref? = none := by cases a <;> simp_all [V, AVal.ref?]

/-- An operand read: the value under way is what it evaluates to; what else is under way stays. -/
theorem rd_okF {B : Base} {s : S} {a : Act} {w : World} {Own : Owner} {ρ : List Nat} {M : Mem} (h : RS B s a.tmps w Own ρ M) (d : Option TD) (m : Nat) (x : Operand) (K : KV) (r : Res) (hr : s.rd d m x K = some r) :
    ∃ v s' Own' M', K v s' = some r ∧ RS B s' a.tmps w Own' ρ M' ∧ SlotOK Own' w ρ M' s'.env a.tmps (.fly 0) v (a.eval x) ∧ MLe M M' ∧ ∀ g k p, k ≠ 0 → Own g = some (.fly k p) → Own' g = some (.fly k p) := by
  have hk := rdo_ok h d x
  have pureCase : ∀ v, V ρ M v (a.eval x) → v.ref? = none → SlotOK Own w ρ M s.env a.tmps (.fly 0) v (a.eval x) := fun v hv hn => by rw [SlotOK_plain hn]; exact Hold_of_V _ _ _ hv
  have taken : ∃ Own', RS B (s.drop x) a.tmps w Own' ρ M ∧ SlotOK Own' w ρ M (s.drop x).env a.tmps (.fly 0) (s.rdo d x) (a.eval x) ∧ ∀ g k p, Own g = some (.fly k p) → Own' g = some (.fly k p) := by
    cases x with
    | tmp t =>
      rcases hk with ⟨h1, h2⟩ | h1
      · exact h.take' h1 h2
      · exact ⟨Own, h.forget t, by rw [h1]; exact SlotOK_undef, fun _ _ _ h => h⟩
    | const c => exact ⟨Own, h, by rw [SlotOK_plain hk.2]; exact hk.1, fun _ _ _ h => h⟩
    | global g => exact ⟨Own, h, by rw [SlotOK_plain hk.2]; exact hk.1, fun _ _ _ h => h⟩
    | func f => exact ⟨Own, h, by rw [SlotOK_plain hk.2]; exact hk.1, fun _ _ _ h => h⟩
  unfold S.rd at hr
  split at hr
  · split at hr
    · rename_i hp
      exact ⟨_, s, Own, M, hr, h, pureCase _ (rdo_pure h d x hp) (pure_ref hp), MLe.refl _, fun _ _ _ _ h => h⟩
    · split at hr
      · exact ⟨_, s, Own, M, hr, h, by rw [SlotOK_plain hk.2]; exact hk.1, MLe.refl _, fun _ _ _ _ h => h⟩
      · cases hr
  · obtain ⟨O', h', hf, hkeep⟩ := taken
    exact ⟨_, _, O', M, hr, h', hf, MLe.refl _, fun g k p _ hg => hkeep g k p hg⟩
  · obtain ⟨O', h', hf, hkeep⟩ := taken
    obtain ⟨O2, M2, h2, hv, hM, hk2⟩ := h'.opened 0 hf
    exact ⟨_, _, O2, M2, hr, h2, by rw [SlotOK_plain (fz_ref _)]; exact Hold_of_V _ _ _ hv, hM, fun g k p hne hg => hk2 g _ (hkeep g k p hg) (fun q => by intro e; cases e; exact hne rfl)⟩
  · split at hr
    · rename_i hp
      exact ⟨_, s, Own, M, hr, h, pureCase _ (rdo_pure h d x hp) (pure_ref hp), MLe.refl _, fun _ _ _ _ h => h⟩
    · cases x with
      | const c => cases hr
      | global g => cases hr
      | func f => cases hr
      | tmp t =>
        dsimp only at hr
        rcases hk with ⟨h1, h2⟩ | h1
        · split at hr
          · rename_i u hu
            refine ⟨_, s, Own, M, hr, h, ?_, MLe.refl _, fun _ _ _ _ h => h⟩
            have := h.env t _ _ h1 h2
            rw [hu] at this
            exact this
          · split at hr
            · rename_i hu
              refine ⟨_, s, Own, M, hr, h, ?_, MLe.refl _, fun _ _ _ _ h => h⟩
              exact ⟨_, h1, hu, h2⟩
            · cases hr
        · rw [h1] at hr; simp [AVal.uniq] at hr
  · refine ⟨_, s, Own, M, hr, h, pureCase _ ?_ (lens_ref _), MLe.refl _, fun _ _ _ _ h => h⟩
    cases x with
    | tmp t =>
      rcases hk with ⟨h1, h2⟩ | h1
      · have := h.env t _ _ h1 h2
        cases hc : (s.rdo d (.tmp t)).ref? with
        | none => rw [SlotOK_plain hc] at this; exact V_lens _ _ _ this
        | some u => generalize s.rdo d (.tmp t) = y at *; cases y <;> simp_all [AVal.ref?, AVal.lens, V]
      · rw [h1]; simp [AVal.lens, V]
    | const c => exact V_lens _ _ _ hk.1
    | global g => exact V_lens _ _ _ hk.1
    | func f => exact V_lens _ _ _ hk.1

/-- An operand read: the value under way is what it evaluates to. -/
theorem rd_ok {B : Base} {s : S} {a : Act} {w : World} (h : RSx B s a.tmps w) (d : Option TD) (m : Nat) (x : Operand) (K : KV) (r : Res) (hr : s.rd d m x K = some r) :
    ∃ v s', K v s' = some r ∧ RF B s' a.tmps w v (a.eval x) :=
  let ⟨Own, ρ, M, h⟩ := h
  let ⟨v, s', O, M', hK, h', hf, _, _⟩ := rd_okF h d m x K r hr
  ⟨v, s', hK, O, ρ, M', h', hf⟩

end Go.Proofs.YtognccpmaljamaaGreatDoor.Sa

/- AS, part S4: the types' facts; operations that touch no memory. -/
namespace Go.Proofs.YtognccpmaljamaaGreatDoor.Sa
open Go
variable [GlobMem]

/-- A zero's cell. -/
noncomputable def zeroCell : AVal → Value → Bool
  | .int k n, .int k' n' => decide (k = k') && n == n'
  | .bool b, .bool b' => b == b'
  | .str [], .string s => s.data.toList.isEmpty
  | .nilp, .pointer none => true
  | .ints true _ [], .slice none 0 0 => true
  | .strs true [], .slice none 0 0 => true
  | .strs2 true [], .slice none 0 0 => true
  | .rows true _ [], .slice none 0 0 => true
  | .nilf, .nilFunc => true
  | .nili, .nilIface => true
  | .undef, v => v.oneCell'
  | _, _ => false

noncomputable def zeroCells : List AVal → List Value → Bool
  | [], [] => true
  | a :: l, v :: m => zeroCell a v && zeroCells l m
  | _, _ => false

noncomputable def skOK (P : Program) (e : Nat) : SK → Prop
  | .ints k => P.underlying e = some (.int k) ∧ (P.info? e).map (·.size) = some 1
  | .strs => P.underlying e = some .string ∧ (P.info? e).map (·.size) = some 1
  | .strs2 => (∃ fs, P.underlying e = some (.struct fs)) ∧ (P.info? e).map (·.size) = some 2
  | .rows z => (P.info? e).map (·.size) = some z

noncomputable def fieldsOK (P : Program) (fs : List (Nat × Nat × Nat)) (F : Array Go.Field) : Prop :=
  F.size = fs.length ∧ ∀ (i : Nat) (f : Nat × Nat × Nat), fs[i]? = some f → ∃ g, F[i]? = some g ∧ g.offset = f.1 ∧ g.type = f.2.2 ∧ g.name ≠ "_" ∧ (P.info? g.type).map (·.size) = some f.2.1

noncomputable def kindOK (P : Program) : TK → TypeDesc → Prop
  | .int k, u => u = .int k
  | .bool, u => u = .bool
  | .str, u => u = .string
  | .ptr, u => ∃ e, u = .pointer e
  | .slice e sk, u => u = .slice e ∧ skOK P e sk
  | .struct fs, u => ∃ F, u = .struct F ∧ fieldsOK P fs F
  | .array n e z, u => u = .array n e ∧ (P.info? e).map (·.size) = some z
  | _, u => (match u with | .struct _ | .array _ _ => false | _ => true) = true

structure TyOK (P : Program) (t : Nat) (d : TD) : Prop where
  und : ∃ u, P.underlying t = some u ∧ kindOK P d.k u
  info : ∃ (i : TypeInfo) (z : Value), P.info? t = some i ∧ i.size = d.size ∧ i.bytes = d.bytes ∧ i.zero = some z ∧ i.bytes ≤ 4096 ∧
    (match d.agg? with | true => ∃ zs : List Value, z = .agg zs.toArray ∧ zeroCells d.zero zs = true ∧ d.zero.length = d.size | false => d.size = 1 ∧ ∃ a, d.zero = [a] ∧ zeroCell a z = true ∧ (∀ cs, a ≠ .agg cs) ∧ z.oneCell' = true)

noncomputable def TysOK (P : Program) (cx : Cx) : Prop := ∀ t d, cx.ty.find t = some d → TyOK P t d

theorem TyOK.agg {P : Program} {t : Nat} {d : TD} (h : TyOK P t d) (w : World) : (isAgg t).run P w = .ok d.agg? w := by
  obtain ⟨u, hu, hk⟩ := h.und
  unfold isAgg
  rw [Sem.run_bind, run_underlying hu w]
  unfold TD.agg?
  cases hd : d.k <;> simp only [hd, kindOK] at hk
  case struct fs => obtain ⟨F, rfl, _⟩ := hk; rfl
  case array n e z => obtain ⟨rfl, _⟩ := hk; rfl
  case ptr => obtain ⟨e, rfl⟩ := hk; rfl
  case slice e sk => obtain ⟨rfl, _⟩ := hk; rfl
  case int k => subst hk; rfl
  case bool => subst hk; rfl
  case str => subst hk; rfl
  all_goals (cases u <;> first | rfl | (simp at hk))

theorem TyOK.sizeOf {P : Program} {t : Nat} {d : TD} (h : TyOK P t d) (w : World) : (Go.sizeOf t).run P w = .ok d.size w := by
  obtain ⟨i, z, hi, hs, _⟩ := h.info
  simp [Go.sizeOf, typeInfo, hi, hs]

/-- The operation comes to v beside s'. -/
noncomputable def OpOK (P : Program) (B : Base) (o : Oper) (a : Act) (w : World) (v : AVal) (s' : S) : Prop :=
  ∀ (next : Act → World → Prop) (Q : Exit → Act → World → Prop), (∀ v' w', RF B s' a.tmps w' v v' → next (a.put o.dst v') w') → o.wp P a w next Q

theorem OpOK.of_run {P : Program} {B : Base} {o : Oper} {a : Act} {w w' : World} {v : AVal} {v' : Value} {s' : S} (h : (execOp a.eval o).run P w = .ok (.value v') w') (hf : RF B s' a.tmps w' v v') : OpOK P B o a w v s' :=
  fun next Q hn => by unfold Oper.wp; rw [h]; exact hn v' w' hf

theorem OpOK.of_skip {P : Program} {B : Base} {o : Oper} {a : Act} {w w' : World} {v : AVal} {s' : S} (h : (execOp a.eval o).run P w = .ok .skip w') (hf : RF B s' a.tmps w' v Go.undef) : OpOK P B o a w v s' :=
  fun next Q hn => by unfold Oper.wp; rw [h]; exact hn _ w' hf

/-- The operation comes to v beside s', in whatever world. -/
noncomputable def OpOKp (P : Program) (B : Base) (o : Oper) (a : Act) (w : World) (v : AVal) (s' : S) : Prop :=
  ∃ v', (∀ w', (execOp a.eval o).run P w' = .ok (.value v') w') ∧ RF B s' a.tmps w v v'

theorem OpOKp.of_run {P : Program} {B : Base} {o : Oper} {a : Act} {w : World} {v : AVal} {v' : Value} {s' : S} (h : ∀ w', (execOp a.eval o).run P w' = .ok (.value v') w') (hf : RF B s' a.tmps w v v') : OpOKp P B o a w v s' := ⟨v', h, hf⟩

theorem OpOKp.op {P : Program} {B : Base} {o : Oper} {a : Act} {w : World} {v : AVal} {s' : S} (h : OpOKp P B o a w v s') : OpOK P B o a w v s' := let ⟨_, h1, h2⟩ := h; OpOK.of_run (h1 w) h2

/-- What stepA comes to is sound, and the world is not looked at. -/
noncomputable def StepOKp (P : Program) (B : Base) (o : Oper) (a : Act) (w : World) (x : Option Res) (K : KV) : Prop :=
  ∀ r, x = some r → ∃ v s', K v s' = some r ∧ OpOKp P B o a w v s'

/-- What stepA comes to is sound. -/
noncomputable def StepOK (P : Program) (B : Base) (o : Oper) (a : Act) (w : World) (x : Option Res) (K : KV) : Prop :=
  ∀ r, x = some r → ∃ v s', K v s' = some r ∧ OpOK P B o a w v s'

theorem StepOKp.p {P : Program} {B : Base} {o : Oper} {a : Act} {w : World} {x : Option Res} {K : KV} (h : StepOKp P B o a w x K) : StepOK P B o a w x K := fun r hr =>
  let ⟨v, s', hK, hop⟩ := h r hr
  ⟨v, s', hK, hop.op⟩

section
variable {P : Program} {cx : Cx} {B : Base} {o : Oper} {a : Act} {w : World} {s : S}

theorem step_rd (h : RSx B s a.tmps w) (d : Option TD) (m : Nat) (x : Operand) (K : KV) (ho : ∀ w', (execOp a.eval o).run P w' = .ok (.value (a.eval x)) w') : StepOKp P B o a w (s.rd d m x K) K := by
  intro r hr
  obtain ⟨v, s', hK, hf⟩ := rd_ok h d m x K r hr
  exact ⟨v, s', hK, OpOKp.of_run ho hf⟩

theorem step_move (h : RSx B s a.tmps w) (x : Operand) (hop : o.op = .move x) (d : Option TD) (m : Nat) (K : KV) : StepOKp P B o a w (s.rd d m x K) K :=
  step_rd h d m x K (fun w' => by simp [execOp, hop])

theorem step_assign (h : RSx B s a.tmps w) (x : Operand) (hop : o.op = .assign x) (d : Option TD) (m : Nat) (K : KV) : StepOKp P B o a w (s.rd d m x K) K :=
  step_rd h d m x K (fun w' => by simp [execOp, hop])

/-- A value of numbers, bools, texts: nothing of memory in it. -/
theorem RSx.flat (h : RSx B s a.tmps w) {v : AVal} {v' : Value} (hv : ∀ ρ M, V ρ M v v') (hr : v.ref? = none) : RF B s a.tmps w v v' :=
  let ⟨O, ρ, M, h⟩ := h; RF.of_V h (hv ρ M) hr

theorem rdo_V (h : RSx B s a.tmps w) (d : Option TD) (x : Operand) (hp : (s.rdo d x).pure = true) : ∃ ρ M, V ρ M (s.rdo d x) (a.eval x) :=
  let ⟨O, ρ, M, h⟩ := h; ⟨ρ, M, rdo_pure h d x hp⟩

theorem rdo_int (h : RSx B s a.tmps w) {d : Option TD} {x : Operand} {k : IntKind} {n : Int} (e : s.rdo d x = .int k n) : a.eval x = .int k n := by
  obtain ⟨ρ, M, hv⟩ := rdo_V h d x (by rw [e]; rfl)
  rw [e] at hv; simpa only [V] using hv
theorem rdo_bool (h : RSx B s a.tmps w) {d : Option TD} {x : Operand} {b : Bool} (e : s.rdo d x = .bool b) : a.eval x = .bool b := by
  obtain ⟨ρ, M, hv⟩ := rdo_V h d x (by rw [e]; rfl)
  rw [e] at hv; simpa only [V] using hv
theorem rdo_str (h : RSx B s a.tmps w) {d : Option TD} {x : Operand} {l : List UInt8} (e : s.rdo d x = .str l) : a.eval x = strV l := by
  obtain ⟨ρ, M, hv⟩ := rdo_V h d x (by rw [e]; rfl)
  rw [e] at hv; simpa only [V] using hv
theorem rdo_nilp (h : RSx B s a.tmps w) {d : Option TD} {x : Operand} (e : s.rdo d x = .nilp) : a.eval x = .pointer none := by
  obtain ⟨ρ, M, hv⟩ := rdo_V h d x (by rw [e]; rfl)
  rw [e] at hv; simpa only [V] using hv
theorem rdo_ptr (h : RSx B s a.tmps w) {d : Option TD} {x : Operand} {b o : Nat} (e : s.rdo d x = .ptr b o) : ∃ g, a.eval x = .pointer (some ⟨g, o, none⟩) := by
  obtain ⟨ρ, M, hv⟩ := rdo_V h d x (by rw [e]; rfl)
  rw [e] at hv; simp only [V] at hv
  obtain ⟨g, _, hv⟩ := hv
  exact ⟨g, hv⟩

theorem step_pick (h : RSx B s a.tmps w) (c x y : Operand) (hop : o.op = .pick c x y) (d : Option TD) (K : KV) :
    StepOKp P B o a w (match s.rdo none c with
      | .bool c' => match c' with
        | true => s.rd d 0 x K
        | false => s.rd d 0 y K
      | _ => none) K := by
  intro r hr
  split at hr
  · rename_i c' hc
    have hb := rdo_bool h hc
    cases c'
    · exact step_rd h d 0 y K (fun w' => by simp [execOp, hop, hb, asBool]) r hr
    · exact step_rd h d 0 x K (fun w' => by simp [execOp, hop, hb, asBool]) r hr
  · cases hr

theorem gd_some {c : Bool} {x : Option Res} {r : Res} (h : gd c x = some r) : c = true ∧ x = some r := by cases c <;> simp_all [gd]

theorem StepOK.none {K : KV} : StepOK P B o a w none K := fun r h => by cases h

/-- An operation that comes to a flat value and leaves the world. -/
theorem StepOKp.flat (h : RSx B s a.tmps w) {v : AVal} {v' : Value} {K : KV} (hop : ∀ w', (execOp a.eval o).run P w' = .ok (.value v') w') (hv : ∀ ρ M, V ρ M v v') (hr : v.ref? = none) : StepOKp P B o a w (K v s) K :=
  fun r hK => ⟨v, s, hK, OpOKp.of_run hop (h.flat hv hr)⟩

theorem StepOKp.none {K : KV} : StepOKp P B o a w none K := fun r h => by cases h

theorem StepOKp.gd {K : KV} {c : Bool} {x : Option Res} (h : c = true → StepOKp P B o a w x K) : StepOKp P B o a w (gd c x) K :=
  fun r hr => h (gd_some hr).1 r (gd_some hr).2

theorem step_unOp (h : RSx B s a.tmps w) (op : UnOp) (t : TypeId) (x : Operand) (hop : o.op = .unOp op t x) (K : KV) : StepOKp P B o a w (unA op (s.rdo none x) fun v => K v s) K := by
  unfold unA
  split
  · rename_i b hb
    exact StepOKp.flat h (v' := .bool (!b)) (fun w' => by simp [execOp, hop, rdo_bool h hb, Op.unary]) (fun _ _ => by simp only [V]) rfl
  · rename_i k n hb
    exact StepOKp.flat h (v' := .int k (k.wrap (0 - n))) (fun w' => by simp [execOp, hop, rdo_int h hb, Op.unary, Op.intArith]) (fun _ _ => by simp only [V]) rfl
  · rename_i k n hb
    exact StepOKp.flat h (v' := .int k (bits2 .xor k (if k.signed then -1 else k.max) n)) (fun w' => by simp [execOp, hop, rdo_int h hb, Op.unary, Op.intBits, bits2]) (fun _ _ => by simp only [V]) rfl
  · exact StepOKp.none

theorem strV_toList (l : List UInt8) : (⟨l.toArray⟩ : ByteArray).toList = l := by rw [ByteArray.toList_eq]

theorem strV_append (l m : List UInt8) : (⟨l.toArray⟩ : ByteArray) ++ ⟨m.toArray⟩ = ⟨(l ++ m).toArray⟩ := by
  apply ByteArray.ext
  simp [ByteArray.data_append]

theorem strV_size (l : List UInt8) : (⟨l.toArray⟩ : ByteArray).size = l.length := by simp [ByteArray.size]

theorem i64max : IntKind.i64.max = 9223372036854775807 := by decide

theorem step_binI (h : RSx B s a.tmps w) (op : BinOp) (t : TypeId) (x y : Operand) (yt : TypeId) (hop : o.op = .binOp op t x y yt) {k : IntKind} {m n : Int} (hx : a.eval x = .int k m) (hy : a.eval y = .int k n)
    (hs1 : op ≠ .shl) (hs2 : op ≠ .shr) (K : KV) : StepOKp P B o a w (binI op k m n fun v => K v s) K := by
  have base : ∀ (v' : Value) (v : AVal), (∀ w', (binOp op t (.int k m) (.int k n)).run P w' = .ok v' w') → (∀ ρ M, V ρ M v v') → v.ref? = none → StepOKp P B o a w (K v s) K :=
    fun v' v hb hv hr => StepOKp.flat h (v' := v') (fun w' => by simp [execOp, hop, hx, hy, eqGuard_at_int, hb]) hv hr
  cases op <;> simp only [binI] <;> first
    | exact StepOKp.none
    | exact absurd rfl hs1
    | exact absurd rfl hs2
    | exact base _ _ (fun w' => by simp [binOp_add, Op.intArith]; rfl) (fun _ _ => by simp only [V]) rfl
    | exact base _ _ (fun w' => by simp [binOp_sub, Op.intArith]; rfl) (fun _ _ => by simp only [V]) rfl
    | exact base _ _ (fun w' => by simp [binOp_mul, Op.intArith]; rfl) (fun _ _ => by simp only [V]) rfl
    | exact base (.int k (bits2 .and k m n)) _ (fun w' => by rw [binOp_and]; rfl) (fun _ _ => by simp only [V]) rfl
    | exact base (.int k (bits2 .or k m n)) _ (fun w' => by rw [binOp_or]; rfl) (fun _ _ => by simp only [V]) rfl
    | exact base (.int k (bits2 .xor k m n)) _ (fun w' => by rw [binOp_xor]; rfl) (fun _ _ => by simp only [V]) rfl
    | exact base (.int k (bits2 .andNot k m n)) _ (fun w' => by rw [binOp_andNot]; rfl) (fun _ _ => by simp only [V]) rfl
    | exact base (.bool (m == n)) _ (fun w' => by simp [binOp_eql]) (fun _ _ => by simp only [V]) rfl
    | exact base (.bool (m != n)) _ (fun w' => by simp [binOp_neq]) (fun _ _ => by simp only [V]; rfl) rfl
    | exact base (.bool (decide (m < n))) _ (fun w' => by simp [binOp_lss]) (fun _ _ => by simp only [V]) rfl
    | exact base (.bool (decide (m ≤ n))) _ (fun w' => by simp [binOp_leq]) (fun _ _ => by simp only [V]) rfl
    | exact base (.bool (decide (n < m))) _ (fun w' => by simp [binOp_gtr]) (fun _ _ => by simp only [V]) rfl
    | exact base (.bool (decide (n ≤ m))) _ (fun w' => by simp [binOp_geq]) (fun _ _ => by simp only [V]) rfl
    | exact StepOKp.gd fun hc => base (.int k (k.wrap (m.tdiv n))) _ (fun w' => by simp at hc; simp [binOp_quo, Op.intDiv, hc]) (fun _ _ => by simp only [V]) rfl
    | exact StepOKp.gd fun hc => base (.int k (m.tmod n)) _ (fun w' => by simp at hc; simp [binOp_rem, Op.intDiv, hc]) (fun _ _ => by simp only [V]) rfl

theorem step_binS (h : RSx B s a.tmps w) (op : BinOp) (t : TypeId) (x y : Operand) (yt : TypeId) (hop : o.op = .binOp op t x y yt) {l m : List UInt8} (hx : a.eval x = strV l) (hy : a.eval y = strV m) (K : KV) :
    StepOKp P B o a w (binS op l m fun v => K v s) K := by
  have base : ∀ (v' : Value) (v : AVal), (∀ w', (Op.stringOp op ⟨l.toArray⟩ ⟨m.toArray⟩).run P w' = .ok v' w') → (∀ ρ M, V ρ M v v') → v.ref? = none → StepOKp P B o a w (K v s) K :=
    fun v' v hb hv hr => StepOKp.flat h (v' := v') (fun w' => by
      have e : binOp op t (strV l) (strV m) = Op.stringOp op ⟨l.toArray⟩ ⟨m.toArray⟩ := by cases op <;> rfl
      simp [execOp, hop, hx, hy, eqGuard_at_string, e, hb]) hv hr
  cases op <;> simp only [binS] <;> first
    | exact StepOKp.none
    | exact StepOKp.gd fun hc => base (strV (l ++ m)) _ (fun w' => by
        have hn : ¬ ((((⟨l.toArray⟩ : ByteArray).size + (⟨m.toArray⟩ : ByteArray).size : Nat) : Int) > IntKind.i64.max) := by
          rw [strV_size, strV_size, i64max]; have hc' := of_decide_eq_true hc; unfold LIM at hc'; omega
        simp only [Op.stringOp, if_neg hn, strV_append]; rfl) (fun _ _ => by simp only [V]) rfl
    | exact base (.bool (l == m)) _ (fun w' => by simp only [Op.stringOp, strV_toList]; rfl) (fun _ _ => by simp only [V]) rfl
    | exact base (.bool (!(l == m))) _ (fun w' => by simp only [Op.stringOp, strV_toList]; rfl) (fun _ _ => by simp only [V]) rfl
    | exact base (.bool (Op.bytesLess l m)) _ (fun w' => by simp only [Op.stringOp, strV_toList]; rfl) (fun _ _ => by simp only [V, strLess]) rfl
    | exact base (.bool (Op.bytesLess l m || l == m)) _ (fun w' => by simp only [Op.stringOp, strV_toList]; rfl) (fun _ _ => by simp only [V, strLess]) rfl
    | exact base (.bool (!(Op.bytesLess l m || l == m))) _ (fun w' => by simp only [Op.stringOp, strV_toList]; rfl) (fun _ _ => by simp only [V, strLess]) rfl
    | exact base (.bool (!(Op.bytesLess l m))) _ (fun w' => by simp only [Op.stringOp, strV_toList]; rfl) (fun _ _ => by simp only [V, strLess]) rfl

theorem step_shift (h : RSx B s a.tmps w) (t : TypeId) (x y : Operand) (yt : TypeId) {k k' : IntKind} {m n : Int} (hx : a.eval x = .int k m) (hy : a.eval y = .int k' n) (K : KV) :
    (o.op = .binOp .shl t x y yt → StepOKp P B o a w (gd (decide (0 ≤ n)) (K (.int k (shl2 k m n)) s)) K) ∧
    (o.op = .binOp .shr t x y yt → StepOKp P B o a w (gd (decide (0 ≤ n)) (K (.int k (shr2 k m n)) s)) K) := by
  constructor <;> intro hop <;> refine StepOKp.gd fun hc => ?_
  · simp at hc
    have hn : ¬ n < 0 := by omega
    exact StepOKp.flat h (v' := .int k (k.wrap (m * 2 ^ (min n.toNat k.bits)))) (fun w' => by simp [execOp, hop, hx, hy, eqGuard_at_int, binOp_shl, Op.shift, hn]) (fun _ _ => by simp only [V, shl2]) rfl
  · simp at hc
    have hn : ¬ n < 0 := by omega
    exact StepOKp.flat h (v' := .int k (m.fdiv (2 ^ (min n.toNat k.bits)))) (fun w' => by simp [execOp, hop, hx, hy, eqGuard_at_int, binOp_shr, Op.shift, hn]) (fun _ _ => by simp only [V, shr2]) rfl

theorem step_nilCheck (h : RSx B s a.tmps w) (x : Operand) (hop : o.op = .nilCheck x) (K : KV) :
    StepOKp P B o a w (match s.rdo none x with
      | .ptr b o => K (.ptr b o) s
      | .rptr cs => K (.rptr cs) s
      | .eref t i => K (.eref t i) s
      | .fn f cs => K (.fn f cs) s
      | _ => none) K := by
  intro r hr
  obtain ⟨Own, ρ, M, hs⟩ := h
  have pureV : (s.rdo none x).pure = true → V ρ M (s.rdo none x) (a.eval x) := rdo_pure hs none x
  split at hr
  · rename_i b off hb
    rw [hb] at pureV
    have hv := pureV rfl
    have hv0 := hv
    simp only [V] at hv
    obtain ⟨g, hg, hv⟩ := hv
    exact ⟨_, s, hr, OpOKp.of_run (v' := a.eval x) (fun w' => by simp [execOp, hop, hv]) (RF.of_V hs hv0 rfl)⟩
  · rename_i cs hb
    rw [hb] at pureV
    have hv := pureV rfl
    have hv0 := hv
    simp only [V] at hv
    obtain ⟨g, off, hv, _⟩ := hv
    exact ⟨_, s, hr, OpOKp.of_run (v' := a.eval x) (fun w' => by simp [execOp, hop, hv]) (RF.of_V hs hv0 rfl)⟩
  · rename_i t i hb
    have hk := rdo_ok hs none x
    cases x with
    | tmp u =>
      rcases hk with ⟨h1, h2⟩ | h1
      · have := hs.env u _ _ h1 h2
        rw [hb] at this
        have hv := this
        simp only [SlotOK] at hv
        obtain ⟨_, _, _, g, off, n, cap, _, hv⟩ := hv
        exact ⟨_, s, hr, OpOKp.of_run (v' := a.eval (.tmp u)) (fun w' => by simp [execOp, hop, hv]) ⟨Own, ρ, M, hs, this⟩⟩
      · rw [h1] at hb; cases hb
    | const c => rw [hb] at hk; simp [AVal.ref?] at hk
    | global g => rw [hb] at hk; simp [AVal.ref?] at hk
    | func f => rw [hb] at hk; simp [AVal.ref?] at hk
  · rename_i f cs hb
    rw [hb] at pureV
    have hv := pureV rfl
    have hv0 := hv
    simp only [V] at hv
    obtain ⟨vs, hv, _⟩ := hv
    exact ⟨_, s, hr, OpOKp.of_run (v' := a.eval x) (fun w' => by simp [execOp, hop, hv]) (RF.of_V hs hv0 rfl)⟩
  · cases hr

end
end Go.Proofs.YtognccpmaljamaaGreatDoor.Sa

/- AS, part S5: places of fields and elements, parts of slices, lengths, conversions. -/
namespace Go.Proofs.YtognccpmaljamaaGreatDoor.Sa
open Go
variable [GlobMem]

section
variable {P : Program} {cx : Cx} {B : Base} {o : Oper} {a : Act} {w : World} {s : S}

/-- What a reference in a slot says. -/
theorem rdo_eref {Own : Owner} {ρ : List Nat} {M : Mem} (hs : RS B s a.tmps w Own ρ M) {x : Operand} {u i : Nat} (e : s.rdo none x = .eref u i) :
    ∃ b, s.env[u]? = some b ∧ b.uniq = true ∧ ∃ g off n cap, a.tmps[u]? = some (.slice (some ⟨g, off, none⟩) n cap) ∧ a.eval x = .pointer (some ⟨g, off + i, none⟩) := by
  have hk := rdo_ok hs none x
  cases x with
  | tmp t =>
    rcases hk with ⟨h1, h2⟩ | h1
    · have := hs.env t _ _ h1 h2
      rw [e] at this
      simpa only [SlotOK] using this
    · rw [h1] at e; cases e
  | const c => rw [e] at hk; simp [AVal.ref?] at hk
  | global g => rw [e] at hk; simp [AVal.ref?] at hk
  | func f => rw [e] at hk; simp [AVal.ref?] at hk

theorem rdo_sref {Own : Owner} {ρ : List Nat} {M : Mem} (hs : RS B s a.tmps w Own ρ M) {d : Option TD} {x : Operand} {u : Nat} (e : s.rdo d x = .sref u) :
    ∃ b, s.env[u]? = some b ∧ b.uniq = true ∧ a.tmps[u]? = some (a.eval x) := by
  have hk := rdo_ok hs d x
  cases x with
  | tmp t =>
    rcases hk with ⟨h1, h2⟩ | h1
    · have := hs.env t _ _ h1 h2
      rw [e] at this
      simpa only [SlotOK] using this
    · rw [h1] at e; cases e
  | const c => rw [e] at hk; simp [AVal.ref?] at hk
  | global g => rw [e] at hk; simp [AVal.ref?] at hk
  | func f => rw [e] at hk; simp [AVal.ref?] at hk

theorem uniq_isSl {v : AVal} (h : v.uniq = true) : v.isSl = true := by cases v <;> simp_all [AVal.uniq, AVal.isSl]
theorem uniq_ref {v : AVal} (h : v.uniq = true) : v.ref? = none := by cases v <;> simp_all [AVal.uniq, AVal.ref?]

theorem Hold_uniq {Own : Owner} {ρ : List Nat} {M : Mem} {ℓ : List Nat → Loc} {b : AVal} {v : Value} (hu : b.uniq = true) (h : Hold Own w ρ M ℓ b v) : HoldU Own w ρ M (ℓ []) b v := by
  cases b <;> simp_all [AVal.uniq, Hold]

/-- A slot that holds a slice of its own. -/
theorem slot_uniq {Own : Owner} {ρ : List Nat} {M : Mem} (hs : RS B s a.tmps w Own ρ M) {u : Nat} {b : AVal} {v : Value} (hb : s.env[u]? = some b) (hu : b.uniq = true) (hv : a.tmps[u]? = some v) :
    HoldU Own w ρ M (.slot u []) b v := by
  have := hs.env u b v hb hv
  rw [SlotOK_plain (uniq_ref hu)] at this
  exact Hold_uniq hu this

/-- The shape of any slice. -/
theorem sl_shape {Own : Owner} {ρ : List Nat} {M : Mem} {ℓ : List Nat → Loc} {b : AVal} {v : Value} (hsl : b.isSl = true) (h : Hold Own w ρ M ℓ b v) : ∃ base cap, v = .slice base b.num cap ∧ b.num ≤ cap := by
  cases hu : b.uniq with
  | true => obtain ⟨_, base, cap, hv, hl, _⟩ := Hold_uniq hu h; exact ⟨base, cap, hv, hl⟩
  | false =>
    have hp : b.pure = true := by cases b <;> simp_all [AVal.isSl, AVal.uniq, AVal.pure]
    obtain ⟨_, _, base, cap, hv, hl, _⟩ := (V_laid hsl).1 (V_of_Hold _ _ _ hp h)
    exact ⟨base, cap, hv, hl⟩

theorem len_num {b : AVal} (h : b.isSl = true) : b.len? = some b.num := by cases b <;> simp_all [AVal.isSl, AVal.len?, AVal.num]

/-- What an operand that is a slice, or refers to one, evaluates to. -/
theorem der_shape (h : RSx B s a.tmps w) {d : Option TD} {x : Operand} (hsl : (s.der (s.rdo d x)).isSl = true) : ∃ base cap, a.eval x = .slice base (s.der (s.rdo d x)).num cap ∧ (s.der (s.rdo d x)).num ≤ cap := by
  obtain ⟨Own, ρ, M, hs⟩ := h
  cases hc : (s.rdo d x).ref? with
  | none =>
    have hd : s.der (s.rdo d x) = s.rdo d x := by generalize s.rdo d x = y at *; cases y <;> simp_all [S.der, AVal.ref?]
    rw [hd] at hsl ⊢
    have hk := rdo_ok hs d x
    cases x with
    | tmp t =>
      rcases hk with ⟨h1, h2⟩ | h1
      · have := hs.env t _ _ h1 h2
        rw [SlotOK_plain hc] at this
        exact sl_shape hsl this
      · rw [h1] at hsl; cases hsl
    | const c => exact sl_shape hsl hk.1
    | global g => exact sl_shape hsl hk.1
    | func f => exact sl_shape hsl hk.1
  | some u =>
    cases hx : s.rdo d x <;> rw [hx] at hc hsl <;> simp only [AVal.ref?, reduceCtorEq, Option.some.injEq] at hc
    · simp [S.der, AVal.isSl] at hsl
    · subst hc
      obtain ⟨b, hb, hu, ht⟩ := rdo_sref hs hx
      have := slot_uniq hs hb hu ht
      obtain ⟨_, base, cap, hv, hl, _⟩ := this
      simp only [S.der, lget_of hb] at hsl ⊢
      exact ⟨base, cap, hv, hl⟩

theorem fits_cases {P : Program} {cx : Cx} (hT : TysOK P cx) {t : Nat} {v : AVal} (h : fits (cx.ty.find t) v = true) :
    (∃ l, v = .str l ∧ P.underlying t = some .string) ∨ (∃ n, v = .slen n ∧ ∃ e, P.underlying t = some (.slice e)) ∨
    (v.isSl = true ∧ 0 < v.wid ∧ ∃ e i, P.underlying t = some (.slice e) ∧ P.info? e = some i ∧ i.size = v.wid) := by
  unfold fits at h
  cases hd : cx.ty.find t with
  | none => simp [hd] at h
  | some d =>
    simp only [hd] at h
    obtain ⟨u, hu, hk⟩ := (hT t d hd).und
    cases hdk : d.k <;> simp only [hdk, Bool.false_eq_true] at h hk
    · left
      split at h
      · rename_i l; exact ⟨l, rfl, by simp only [kindOK] at hk; rw [hu, hk]⟩
      · cases h
    · rename_i e sk
      right
      simp only [kindOK] at hk
      split at h
      · rename_i n; exact .inl ⟨n, rfl, e, by rw [hu, hk.1]⟩
      · split at h
        · rename_i hsl
          simp only [Bool.and_eq_true] at h
          refine .inr ⟨hsl, by simpa using h.2, e, ?_⟩
          have hw := Nat.eq_of_beq_eq_true h.1
          have hz : (P.info? e).map (·.size) = some sk.wid := by
            cases sk <;> simp only [skOK] at hk <;> first | exact hk.2.2 | exact hk.2
          cases hi : P.info? e with
          | none => simp [hi] at hz
          | some i => exact ⟨i, by rw [hu, hk.1], rfl, by rw [hw]; simpa [hi] using hz⟩
        · cases h

theorem step_len (hT : TysOK P cx) (h : RSx B s a.tmps w) (t : TypeId) (ts : List TypeId) (x : Operand) (c : Call) (hop : o.op = .call c) (hc : c.callee = .builtin .len) (ha : c.args = #[x]) (hts : c.argTypes.toList = t :: ts) (K : KV) :
    StepOKp P B o a w (match fits (cx.ty.find t) (s.der (s.rdo none x)) with
      | true => match (s.der (s.rdo none x)).len? with
        | some n => K (.int .i64 n) s
        | none => none
      | false => none) K := by
  intro r hr
  split at hr
  · rename_i hf
    have ht0 : c.argTypes[0]? = some t := by rw [← Array.getElem?_toList, hts]; rfl
    have run : ∀ (n : Nat), (∃ u, P.underlying t = some u ∧ ((u = .string ∧ ∃ q, a.eval x = .string q ∧ q.size = n) ∨ (∃ e, u = .slice e ∧ ∃ base cap, a.eval x = .slice base n cap))) →
        ∀ w', (execOp a.eval o).run P w' = .ok (.value (.int .i64 n)) w' := by
      intro n hn' w'
      revert hn'
      rintro ⟨u, hu, ⟨rfl, q, hq, hn⟩ | ⟨e, rfl, base, cap, hq⟩⟩
      · simp [execOp, hop, hc, resolve, ha, invoke, builtin, Builtin.len_, ht0, run_underlying hu, hq, hn, goInt]
      · simp [execOp, hop, hc, resolve, ha, invoke, builtin, Builtin.len_, ht0, run_underlying hu, hq, goInt]
    have fin : ∀ (n : Nat), K (.int .i64 n) s = some r → (∀ w', (execOp a.eval o).run P w' = .ok (.value (.int .i64 n)) w') → ∃ v s', K v s' = some r ∧ OpOKp P B o a w v s' :=
      fun n hK hrun => ⟨_, s, hK, OpOKp.of_run hrun (h.flat (fun _ _ => by simp only [V]) rfl)⟩
    rcases fits_cases hT hf with ⟨l, hl, hu⟩ | ⟨n, hl, e, hu⟩ | ⟨hsl, hw0, e, i, hu, _, _⟩
    · rw [hl] at hr
      simp only [AVal.len?] at hr
      have hx : s.rdo none x = .str l := by
        cases hx : s.rdo none x <;> rw [hx] at hl <;> simp only [S.der, reduceCtorEq] at hl
        · exact hl
        · rename_i u
          obtain ⟨Own, ρ, M, hs⟩ := h
          obtain ⟨b, hb, hu', _⟩ := rdo_sref hs hx
          rw [lget_of hb] at hl
          rw [hl] at hu'; cases hu'
      exact fin _ hr (run _ ⟨_, hu, .inl ⟨rfl, _, rdo_str h hx, strV_size l⟩⟩)
    · rw [hl] at hr
      simp only [AVal.len?] at hr
      have hx : s.rdo none x = .slen n := by
        cases hx : s.rdo none x <;> rw [hx] at hl <;> simp only [S.der, reduceCtorEq] at hl
        · rename_i u
          obtain ⟨Own, ρ, M, hs⟩ := h
          obtain ⟨b, hb, hu', _⟩ := rdo_sref hs hx
          rw [lget_of hb] at hl
          rw [hl] at hu'; cases hu'
        · exact hl
      obtain ⟨ρ, M, hv⟩ := rdo_V h none x (by rw [hx]; rfl)
      rw [hx] at hv; simp only [V] at hv
      obtain ⟨base, cap, hv⟩ := hv
      exact fin _ hr (run _ ⟨_, hu, .inr ⟨e, rfl, base, cap, hv⟩⟩)
    · rw [len_num hsl] at hr
      obtain ⟨base, cap, hv, _⟩ := der_shape h hsl
      exact fin _ hr (run _ ⟨_, hu, .inr ⟨e, rfl, base, cap, hv⟩⟩)
  · cases hr

/-! ### fields -/
theorem step_fieldAddr (hT : TysOK P cx) (h : RSx B s a.tmps w) (t : TypeId) (x : Operand) (f : Nat) (hop : o.op = .fieldAddr t x f) (K : KV) :
    StepOKp P B o a w (match cx.ty.find t with
      | some d => match d.k with
        | .struct fs => match fs[f]? with
          | some (off, z, _) => match Nat.beq z 0 with
            | true => none
            | false => match s.rdo none x with
              | .ptr b o => K (.ptr b (o + off)) s
              | .rptr cs => match Nat.ble (off + z) cs.length with
                | true => K (.rptr (cs.drop off)) s
                | false => none
              | .eref u i => K (.eref u (i + off)) s
              | _ => none
          | none => none
        | _ => none
      | none => none) K := by
  intro r hr
  split at hr
  · rename_i d hd
    split at hr
    · rename_i fs hdk
      split at hr
      · rename_i off z ty hf
        split at hr
        · cases hr
        · rename_i hz
          obtain ⟨u, hu, hk⟩ := (hT t d hd).und
          rw [hdk] at hk
          obtain ⟨F, rfl, hsz, hF⟩ := hk
          obtain ⟨g, hg, ho, hty, _, hsize⟩ := hF f _ hf
          dsimp only at ho hty hsize
          have hz' : z ≠ 0 := Nat.ne_of_beq_eq_false hz
          have run : ∀ (G q : Nat), a.eval x = .pointer (some ⟨G, q, none⟩) → ∀ w', (execOp a.eval o).run P w' = .ok (.value (.pointer (some ⟨G, q + off, none⟩))) w' := by
            intro G q hx w'
            have hsz : (Go.sizeOf g.type).run P w' = .ok z w' := by
              cases hi : P.info? g.type with
              | none => simp [hi] at hsize
              | some i => simp [Go.sizeOf, typeInfo, hi]; simpa [hi] using hsize
            simp [execOp, hop, Instr.fieldAt, run_underlying hu, hg, hx, Instr.sureAddr, fieldPlace, hsz, hz', Addr.add_mid, ho]
          obtain ⟨Own, ρ, M, hs⟩ := h
          have pureV : (s.rdo none x).pure = true → V ρ M (s.rdo none x) (a.eval x) := rdo_pure hs none x
          split at hr
          · rename_i b q hb
            rw [hb] at pureV
            have hv := pureV rfl
            simp only [V] at hv
            obtain ⟨G, hG, hv⟩ := hv
            exact ⟨_, s, hr, OpOKp.of_run (run G q hv) (RF.of_V hs (by simp only [V]; exact ⟨G, hG, rfl⟩) rfl)⟩
          · rename_i cs hb
            split at hr
            · rename_i hle
              rw [hb] at pureV
              have hv := pureV rfl
              simp only [V] at hv
              obtain ⟨G, q, hv, hc⟩ := hv
              refine ⟨_, s, hr, OpOKp.of_run (run G q hv) (RF.of_V hs ?_ rfl)⟩
              simp only [V]
              refine ⟨G, q + off, rfl, ?_⟩
              rw [VC_iff] at hc ⊢
              intro i b hb
              rw [List.getElem?_drop] at hb
              have := hc (off + i) b hb
              rwa [show q + (off + i) = q + off + i by omega] at this
            · cases hr
          · rename_i u i hb
            obtain ⟨b, hb', hu', G, q, n, cap, ht, hv⟩ := rdo_eref hs hb
            refine ⟨_, s, hr, OpOKp.of_run (run G (q + i) hv) ⟨Own, ρ, M, hs, ?_⟩⟩
            simp only [SlotOK]
            exact ⟨b, hb', hu', G, q, n, cap, ht, by rw [Nat.add_assoc]⟩
          · cases hr
      · cases hr
    · cases hr
  · cases hr

/-! ### elements -/
theorem idx_some {α : Type} {l : List α} {i : Int} {x : α} (h : idx l i = some x) : 0 ≤ i ∧ l[i.toNat]? = some x ∧ i.toNat < l.length := by
  unfold idx at h
  split at h
  · rename_i h0; exact ⟨h0, h, (List.getElem?_eq_some_iff.1 h).1⟩
  · cases h

theorem run_indexAddr (t e : TypeId) (i : TypeInfo) (hu : P.underlying t = some (.slice e)) (hi : P.info? e = some i) (x ix : Operand) (hop : o.op = .indexAddr t x ix) {k : IntKind} {n : Int} {g off len cap : Nat}
    (hx : a.eval x = .slice (some ⟨g, off, none⟩) len cap) (hix : a.eval ix = .int k n) (h0 : 0 ≤ n) (h1 : n.toNat < len) :
    (execOp a.eval o).run P w = .ok (.value (.pointer (some ⟨g, off + n.toNat * i.size, none⟩))) w := by
  have h1' : n < (len : Int) := by omega
  simp [execOp, hop, Instr.indexAt, hx, hix, asIntOf, run_underlying hu, h0, h1', Go.sizeOf, typeInfo, hi, Addr.add_mid]

/-- An element of a slice that is laid open. -/
theorem laid_elem {ρ : List Nat} {M : Mem} {b : AVal} {v : Value} (hsl : b.isSl = true) (hu : b.uniq = false) (hv : V ρ M b v) (i : Nat) (hi : i < b.num) (hw : 0 < b.wid) :
    ∃ g off cap, v = .slice (some ⟨g, off, none⟩) b.num cap ∧ ∀ j p, (cellPs ρ M b)[i * b.wid + j]? = some p → ∃ c, M g (off + i * b.wid + j) = some c ∧ p c := by
  obtain ⟨_, hwd, base, cap, hv, hl, hc⟩ := (V_laid hsl).1 hv
  have hne : cellPs ρ M b ≠ [] := by
    intro he
    cases b with
    | ints u k l => simp only [cellPs, List.map_eq_nil_iff] at he; subst he; simp [AVal.num] at hi
    | strs u l => simp only [cellPs, List.map_eq_nil_iff] at he; subst he; simp [AVal.num] at hi
    | strs2 u l =>
      cases l with
      | nil => simp [AVal.num] at hi
      | cons p l => simp [cellPs] at he
    | rows u z l =>
      cases l with
      | nil => simp [AVal.num] at hi
      | cons p l =>
        have hp := hwd p (by simp)
        simp only [cellPs, List.map_eq_nil_iff, List.flatten_cons, List.append_eq_nil_iff] at he
        rw [he.1] at hp
        simp [AVal.wid] at hw
        simp at hp
        omega
    | _ => cases hsl
  rcases hc with hc | ⟨g, off, hb, hc⟩
  · exact absurd hc hne
  · exact ⟨g, off, cap, hb ▸ hv, fun j p hp => by
      have := hc _ p hp
      rwa [show off + (i * b.wid + j) = off + i * b.wid + j by omega] at this⟩

theorem flatten_get {α : Type} (z : Nat) : ∀ (l : List (List α)) (i j : Nat) (r : List α), (∀ r, r ∈ l → r.length = z) → l[i]? = some r → j < z → l.flatten[i * z + j]? = r[j]?
  | [], i, j, r, _, h, _ => by simp at h
  | q :: l, 0, j, r, hw, h, hj => by
    simp at h
    subst h
    have := hw q (by simp)
    rw [List.flatten_cons, Nat.zero_mul, Nat.zero_add, List.getElem?_append_left (by omega)]
  | q :: l, i + 1, j, r, hw, h, hj => by
    have hq := hw q (by simp)
    rw [List.flatten_cons, List.getElem?_append_right (by rw [hq, Nat.succ_mul]; omega)]
    have : (i + 1) * z + j - q.length = i * z + j := by rw [hq, Nat.succ_mul]; omega
    rw [this]
    exact flatten_get z l i j r (fun r hr => hw r (by simp [hr])) (by simpa using h) hj

theorem flatMap2_get {α β : Type} (f g : α → β) : ∀ (l : List α) (i : Nat) (x : α), l[i]? = some x → (l.flatMap fun p => [f p, g p])[i * 2]? = some (f x) ∧ (l.flatMap fun p => [f p, g p])[i * 2 + 1]? = some (g x)
  | [], i, x, h => by simp at h
  | q :: l, 0, x, h => by simp at h; subst h; simp
  | q :: l, i + 1, x, h => by
    have := flatMap2_get f g l i x (by simpa using h)
    simpa [Nat.succ_mul] using this

theorem step_indexA (hT : TysOK P cx) (h : RSx B s a.tmps w) (t : TypeId) (x ix : Operand) (hop : o.op = .indexAddr t x ix) {k : IntKind} {n : Int} (hn : s.rdo none ix = .int k n) (K : KV) :
    StepOKp P B o a w (match s.rdo none x with
      | .ptr b off => match cx.ty.find t with
        | some d => match d.k with
          | .array len _ z => gd (decide (0 ≤ n ∧ n.toNat < len)) (K (.ptr b (off + n.toNat * z)) s)
          | _ => none
        | none => none
      | .sref u => match fits (cx.ty.find t) (lget s.env u) with
        | true => indexA (lget s.env u) (some u) n fun r => K r s
        | false => none
      | v => match fits (cx.ty.find t) v with
        | true => indexA v (tmpOf x) n fun r => K r s
        | false => none) K := by
  have hix := rdo_int h hn
  obtain ⟨Own, ρ, M, hs⟩ := h
  -- a slice that slot u holds
  have uniqCase : ∀ (u : Nat) (b : AVal), s.env[u]? = some b → a.tmps[u]? = some (a.eval x) → b.uniq = true → fits (cx.ty.find t) b = true →
      StepOKp P B o a w (gd (decide (0 ≤ n ∧ n.toNat < b.num)) (K (.eref u (n.toNat * b.wid)) s)) K := by
    intro u b hb ht hu hf
    refine StepOKp.gd fun hc => ?_
    simp only [decide_eq_true_eq] at hc
    intro r hr
    rcases fits_cases hT hf with ⟨l, hl, _⟩ | ⟨m, hl, _⟩ | ⟨hsl, hw0, e, i, hut, hi, hsz⟩
    · rw [hl] at hu; cases hu
    · rw [hl] at hu; cases hu
    · obtain ⟨_, base, cap, hv, hl, hcase⟩ := slot_uniq hs hb hu ht
      rcases hcase with ⟨_, h0⟩ | ⟨g, off, hbase, _⟩
      · omega
      · subst hbase
        refine ⟨_, s, hr, OpOKp.of_run (fun w' => run_indexAddr t e i hut hi x ix hop hv hix hc.1 hc.2) ⟨Own, ρ, M, hs, ?_⟩⟩
        simp only [SlotOK]
        exact ⟨b, hb, hu, g, off, b.num, cap, hv ▸ ht, by rw [hsz]⟩
  -- a slice that is laid open
  have laidCase : ∀ (cs : List AVal), (s.rdo none x).isSl = true → (s.rdo none x).uniq = false → fits (cx.ty.find t) (s.rdo none x) = true → 0 ≤ n → n.toNat < (s.rdo none x).num → 0 < (s.rdo none x).wid →
      (∀ j c, cs[j]? = some c → ∃ p, (cellPs ρ M (s.rdo none x))[n.toNat * (s.rdo none x).wid + j]? = some p ∧ ∀ v, p v → V ρ M c v) → StepOKp P B o a w (K (.rptr cs) s) K := by
    intro cs hsl hu hf h0 h1 hw hcs r hr
    have hp : (s.rdo none x).pure = true := by generalize s.rdo none x = b at *; cases b <;> simp_all [AVal.isSl, AVal.uniq, AVal.pure]
    have hv := rdo_pure hs none x hp
    obtain ⟨g, off, cap, hv', hcell⟩ := laid_elem hsl hu hv n.toNat h1 hw
    rcases fits_cases hT hf with ⟨l, hl, _⟩ | ⟨m, hl, _⟩ | ⟨_, hw0, e, i, hut, hi, hsz⟩
    · rw [hl] at hsl; cases hsl
    · rw [hl] at hsl; cases hsl
    · refine ⟨_, s, hr, OpOKp.of_run (fun w' => run_indexAddr t e i hut hi x ix hop hv' hix h0 h1) (RF.of_V hs ?_ rfl)⟩
      simp only [V]
      refine ⟨g, _, rfl, ?_⟩
      rw [VC_iff, hsz]
      intro j c hc
      obtain ⟨p, hp, hpv⟩ := hcs j c hc
      obtain ⟨y, hy, hpy⟩ := hcell j p hp
      exact ⟨y, hy, hpv y hpy⟩
  -- by the operand's form
  have slotOf : ∀ b, s.rdo none x = b → b ≠ .undef → ∀ u, tmpOf x = some u → s.env[u]? = some b ∧ a.tmps[u]? = some (a.eval x) := by
    intro b hb hne u hu
    cases x with
    | tmp t' =>
      simp only [tmpOf, Option.some.injEq] at hu
      subst hu
      rcases rdo_ok hs none (.tmp t') with ⟨h1, h2⟩ | h1
      · exact ⟨hb ▸ h1, h2⟩
      · exact absurd (hb ▸ h1) hne
    | const c => cases hu
    | global g => cases hu
    | func f => cases hu
  intro r hr
  split at hr
  · rename_i b off hb
    split at hr
    · rename_i d hd
      split at hr
      · rename_i len e z hdk
        obtain ⟨hc, hr⟩ := gd_some hr
        simp only [decide_eq_true_eq] at hc
        obtain ⟨u, hu, hk⟩ := (hT t d hd).und
        rw [hdk] at hk
        obtain ⟨rfl, hz⟩ := hk
        have hv := rdo_pure hs none x (by rw [hb]; rfl)
        rw [hb] at hv; simp only [V] at hv
        obtain ⟨G, hG, hv⟩ := hv
        have h1' : n < (len : Int) := by omega
        cases hi : P.info? e with
        | none => simp [hi] at hz
        | some i =>
          have hsz : i.size = z := by simpa [hi] using hz
          refine ⟨_, s, hr, OpOKp.of_run (v' := .pointer (some ⟨G, off + n.toNat * z, none⟩)) ?_ (RF.of_V hs (by simp only [V]; exact ⟨G, hG, rfl⟩) rfl)⟩
          intro w'
          simp [execOp, hop, Instr.indexAt, hv, hix, asIntOf, run_underlying hu, Instr.sureAddr, hc.1, h1', Go.sizeOf, typeInfo, hi, hsz, Addr.add_mid]
      · cases hr
    · cases hr
  · rename_i u hb
    split at hr
    · rename_i hf
      obtain ⟨b, hb', hu, ht⟩ := rdo_sref hs hb
      rw [lget_of hb'] at hf hr
      have key := uniqCase u b hb' ht hu hf
      have : indexA b (some u) n (fun r => K r s) = gd (decide (0 ≤ n ∧ n.toNat < b.num)) (K (.eref u (n.toNat * b.wid)) s) := by
        cases b <;> simp only [AVal.uniq, Bool.false_eq_true] at hu <;> subst hu <;> simp only [indexA, AVal.num, AVal.wid, Nat.mul_one] <;> rfl
      rw [this] at hr
      exact key r hr
    · cases hr
  · rename_i hb1 hb2
    split at hr
    · rename_i hf
      generalize hb : s.rdo none x = b at hr hf hb1 hb2 laidCase slotOf
      have uk : b.uniq = true → ∀ u, tmpOf x = some u → gd (decide (0 ≤ n ∧ n.toNat < b.num)) (K (.eref u (n.toNat * b.wid)) s) = some r → ∃ v s', K v s' = some r ∧ OpOKp P B o a w v s' := by
        intro hu u hx hr
        obtain ⟨h1, h2⟩ := slotOf b rfl (by intro e; subst e; cases hu) u hx
        exact uniqCase u b h1 h2 hu hf r hr
      cases b <;> simp only [indexA, reduceCtorEq] at hr
      · rename_i u k' l
        cases u
        · simp only at hr
          split at hr
          · rename_i y hy
            obtain ⟨h0, h1, h2⟩ := idx_some hy
            refine laidCase [.int k' y] rfl rfl hf h0 h2 (by simp [AVal.wid]) ?_ r hr
            intro j c hc
            cases j with
            | zero => simp at hc; subst hc; exact ⟨_, by simp only [cellPs, AVal.wid, Nat.mul_one, Nat.add_zero, List.getElem?_map, h1]; rfl, fun v hv => by simp only [V]; exact hv⟩
            | succ j => simp at hc
          · cases hr
        · simp only at hr
          split at hr
          · rename_i u hx; exact uk rfl u hx (by simp only [AVal.num, AVal.wid, Nat.mul_one]; exact hr)
          · cases hr
      · rename_i u l
        cases u
        · simp only at hr
          split at hr
          · rename_i y hy
            obtain ⟨h0, h1, h2⟩ := idx_some hy
            refine laidCase [.str y] rfl rfl hf h0 h2 (by simp [AVal.wid]) ?_ r hr
            intro j c hc
            cases j with
            | zero => simp at hc; subst hc; exact ⟨_, by simp only [cellPs, AVal.wid, Nat.mul_one, Nat.add_zero, List.getElem?_map, h1]; rfl, fun v hv => by simp only [V]; exact hv⟩
            | succ j => simp at hc
          · cases hr
        · simp only at hr
          split at hr
          · rename_i u hx; exact uk rfl u hx (by simp only [AVal.num, AVal.wid, Nat.mul_one]; exact hr)
          · cases hr
      · rename_i u l
        cases u
        · simp only at hr
          split at hr
          · rename_i y hy
            obtain ⟨h0, h1, h2⟩ := idx_some hy
            obtain ⟨g1, g2⟩ := flatMap2_get (fun (p : List UInt8 × List UInt8) (c : Value) => c = strV p.1) (fun p c => c = strV p.2) l n.toNat y h1
            refine laidCase [.str y.1, .str y.2] rfl rfl hf h0 h2 (by simp [AVal.wid]) ?_ r hr
            intro j c hc
            match j with
            | 0 => simp at hc; subst hc; exact ⟨_, g1, fun v hv => by simp only [V]; exact hv⟩
            | 1 => simp at hc; subst hc; exact ⟨_, g2, fun v hv => by simp only [V]; exact hv⟩
            | j + 2 => simp at hc
          · cases hr
        · simp only at hr
          split at hr
          · rename_i u hx; exact uk rfl u hx (by simp only [AVal.num, AVal.wid, Nat.mul_one]; exact hr)
          · cases hr
      · rename_i u z l
        cases u
        · simp only at hr
          split at hr
          · rename_i y hy
            obtain ⟨h0, h1, h2⟩ := idx_some hy
            have hv := rdo_pure hs none x (by rw [hb]; rfl)
            rw [hb] at hv
            have hwd : ∀ r, r ∈ l → r.length = z := by simp only [V] at hv; exact hv.2.1
            have hz : 0 < z := by
              rcases fits_cases hT hf with ⟨l, hl, _⟩ | ⟨m, hl, _⟩ | ⟨_, hw0, _⟩
              · cases hl
              · cases hl
              · exact hw0
            · refine laidCase y rfl rfl hf h0 h2 hz ?_ r hr
              intro j c hc
              have hj : j < z := by rw [← hwd y (List.mem_of_getElem? h1)]; exact (List.getElem?_eq_some_iff.1 hc).1
              exact ⟨V ρ M c, by simp only [cellPs, AVal.wid]; rw [List.getElem?_map, flatten_get z l n.toNat j y hwd h1 hj, hc]; rfl, fun v hv => hv⟩
          · cases hr
        · simp only at hr
          split at hr
          · rename_i u hx; exact uk rfl u hx (by simp only [AVal.num, AVal.wid, Nat.mul_one]; exact hr)
          · cases hr
    · cases hr

/-- The tables lie where they are claimed to. -/
noncomputable def GlobOK (cx : Cx) : Prop := ∀ (g : Nat) (cs : List AVal), findG g cx.glob = some cs → VC [] GlobMem.M g 0 cs

theorem Ext.nil (ρ : List Nat) : Ext [] ρ := fun b g h => by simp at h

theorem globOf_V (hG : GlobOK cx) {Own : Owner} {ρ : List Nat} {M : Mem} (hs : RS B s a.tmps w Own ρ M) {x : Operand} {cs : List AVal} (h : globOf cx x (s.rdo none x) = some cs) : V ρ M (.rptr cs) (a.eval x) := by
  unfold globOf at h
  split at h
  · rename_i g
    simp only [V]
    exact ⟨g, 0, rfl, VC_mono (Ext.nil ρ) hs.glob.1 cs g 0 (hG g cs h)⟩
  · split at h
    · rename_i cs' he
      cases h
      have := rdo_pure hs none x (by rw [he]; rfl)
      rwa [he] at this
    · cases h

theorem step_indexRP (hT : TysOK P cx) (hG : GlobOK cx) (h : RSx B s a.tmps w) (t : TypeId) (x ix : Operand) (hop : o.op = .indexAddr t x ix) {k : IntKind} {n : Int} (hn : s.rdo none ix = .int k n) {cs : List AVal} (hx : globOf cx x (s.rdo none x) = some cs) (K : KV) :
    StepOKp P B o a w (indexRP cx t cs n s K) K := by
  have hix := rdo_int h hn
  obtain ⟨Own, ρ, M, hs⟩ := h
  have hv := globOf_V hG hs hx
  simp only [V] at hv
  obtain ⟨G, off, hv, hc⟩ := hv
  intro r hr
  unfold indexRP at hr
  split at hr
  · rename_i d hd
    split at hr
    · rename_i len e z hdk
      obtain ⟨hcc, hr⟩ := gd_some hr
      simp only [decide_eq_true_eq] at hcc
      obtain ⟨h0, h1, h2⟩ := hcc
      obtain ⟨u, hu, hk⟩ := (hT t d hd).und
      rw [hdk] at hk
      obtain ⟨rfl, hz⟩ := hk
      have h1' : n < (len : Int) := by omega
      cases hi : P.info? e with
      | none => simp [hi] at hz
      | some i =>
        have hsz : i.size = z := by simpa [hi] using hz
        refine ⟨_, s, hr, OpOKp.of_run (v' := .pointer (some ⟨G, off + n.toNat * z, none⟩)) ?_ (RF.of_V hs ?_ rfl)⟩
        · intro w'
          simp [execOp, hop, Instr.indexAt, hv, hix, asIntOf, run_underlying hu, Instr.sureAddr, h0, h1', Go.sizeOf, typeInfo, hi, hsz, Addr.add_mid]
        · simp only [V]
          refine ⟨G, _, rfl, ?_⟩
          rw [VC_iff] at hc ⊢
          intro j b hb
          rw [List.getElem?_drop] at hb
          have := hc _ b hb
          rwa [← Nat.add_assoc] at this
    · cases hr
  · cases hr

end
end Go.Proofs.YtognccpmaljamaaGreatDoor.Sa

/- AS, part S6: signs of texts, components, parts, conversions, least and greatest. -/
namespace Go.Proofs.YtognccpmaljamaaGreatDoor.Sa
open Go
variable [GlobMem]

section
variable {P : Program} {cx : Cx} {B : Base} {o : Oper} {a : Act} {w : World} {s : S}

theorem fits_str {P : Program} {cx : Cx} (hT : TysOK P cx) {t : Nat} {l : List UInt8} (h : fits (cx.ty.find t) (.str l) = true) : P.underlying t = some .string := by
  rcases fits_cases hT h with ⟨_, _, hu⟩ | ⟨_, hl, _⟩ | ⟨hsl, _⟩
  · exact hu
  · cases hl
  · cases hsl

theorem HoldL_get {Own : Owner} {ρ : List Nat} {M : Mem} {ℓ : List Nat → Loc} : ∀ (as : List AVal) (vs : List Value) (k : Nat), HoldL Own w ρ M ℓ k as vs → as.length = vs.length ∧
    ∀ (i : Nat) (b : AVal) (v : Value), as[i]? = some b → vs[i]? = some v → Hold Own w ρ M (fun p => ℓ ((k + i) :: p)) b v
  | [], [], k, _ => ⟨rfl, fun i b v hb => by simp at hb⟩
  | b :: as, v :: vs, k, h => by
    simp only [HoldL] at h
    obtain ⟨h1, h2⟩ := HoldL_get as vs (k + 1) h.2
    refine ⟨by simp [h1], fun i b' v' hb hv => ?_⟩
    cases i with
    | zero => simp at hb hv; subst hb hv; exact h.1
    | succ i =>
      have := h2 i b' v' (by simpa using hb) (by simpa using hv)
      rwa [show k + 1 + i = k + (i + 1) by omega] at this
  | [], _ :: _, _, h => by simp only [HoldL] at h
  | _ :: _, [], _, h => by simp only [HoldL] at h

theorem step_index (hT : TysOK P cx) (h : RSx B s a.tmps w) (t : TypeId) (x ix : Operand) (hop : o.op = .index t x ix) {k : IntKind} {n : Int} (hn : s.rdo none ix = .int k n) (K : KV) :
    StepOKp P B o a w (match s.rdo none x with
      | .str l => match fits (cx.ty.find t) (.str l) with
        | true => match idx l n with
          | some c => K (.int .u8 (ofB c)) s
          | none => none
        | false => none
      | .agg cs => indexRA cx t cs n s K
      | _ => none) K := by
  have hix := rdo_int h hn
  intro r hr
  split at hr
  · rename_i l hl
    split at hr
    · rename_i hf
      split at hr
      · rename_i c hc
        obtain ⟨h0, h1, h2⟩ := idx_some hc
        have hu := fits_str hT hf
        have hx := rdo_str h hl
        refine ⟨_, s, hr, OpOKp.of_run (v' := .int .u8 c.toNat) ?_ (h.flat (fun _ _ => by simp only [V, ofB]) rfl)⟩
        intro w'
        have hb : (⟨l.toArray⟩ : ByteArray)[n.toNat]? = some c := by
          have : n.toNat < (⟨l.toArray⟩ : ByteArray).size := by rw [strV_size]; exact h2
          rw [getElem?_pos (⟨l.toArray⟩ : ByteArray) n.toNat this]
          have e : l[n.toNat] = c := by rw [List.getElem?_eq_getElem h2] at h1; exact Option.some.inj h1
          simp only [Option.some.injEq]
          rw [← e]
          rfl
        simp [execOp, hop, Instr.index, hx, hix, asIntOf, run_underlying hu, h0, hb]
      · cases hr
    · cases hr
  · rename_i cs hcs
    unfold indexRA at hr
    split at hr
    · rename_i d hd
      obtain ⟨ut, hut, hkt⟩ := (hT t d hd).und
      split at hr
      · rename_i m e z hk
        split at hr
        · rename_i hz
          have hz1 := Nat.eq_of_beq_eq_true hz
          subst hz1
          split at hr
          · rename_i de hde
            split at hr
            · rename_i hag
              obtain ⟨hc, hr⟩ := gd_some hr
              simp only [decide_eq_true_eq] at hc
              have fin : ∀ v, cs[n.toNat]? = some v → v.pure = true → K v s = some r → ∃ v s', K v s' = some r ∧ OpOKp P B o a w v s' := by
                intro v hv hp hr
                rw [hk] at hkt
                simp only [kindOK] at hkt
                obtain ⟨rfl, hsz⟩ := hkt
                obtain ⟨Own, ρ, M, hs⟩ := h
                have hx : ∃ ℓ vs, a.eval x = .agg (vs : List Value).toArray ∧ HoldL Own w ρ M ℓ 0 cs vs := by
                  have hk := rdo_ok hs none x
                  cases x with
                  | tmp t' =>
                    rcases hk with ⟨h1, h2⟩ | h1
                    · have := hs.env t' _ _ h1 h2
                      rw [hcs] at this
                      simp only [SlotOK, Hold] at this
                      obtain ⟨vs, hu, hl, _⟩ := this
                      exact ⟨_, vs, hu, hl⟩
                    · rw [h1] at hcs; cases hcs
                  | const c =>
                    have := hk.1
                    rw [hcs] at this
                    simp only [Hold] at this
                    obtain ⟨vs, hu, hl, _⟩ := this
                    exact ⟨_, vs, hu, hl⟩
                  | global g =>
                    have := hk.1
                    rw [hcs] at this
                    simp only [Hold] at this
                    obtain ⟨vs, hu, hl, _⟩ := this
                    exact ⟨_, vs, hu, hl⟩
                  | func f =>
                    have := hk.1
                    rw [hcs] at this
                    simp only [Hold] at this
                    obtain ⟨vs, hu, hl, _⟩ := this
                    exact ⟨_, vs, hu, hl⟩
                obtain ⟨ℓ, vs, hx, hl⟩ := hx
                obtain ⟨hlen, hget⟩ := HoldL_get cs vs 0 hl
                have hi : n.toNat < vs.length := by rw [← hlen]; exact (List.getElem?_eq_some_iff.1 hv).1
                have hhi := hget n.toNat v vs[n.toNat] hv (List.getElem?_eq_getElem hi)
                refine ⟨v, s, hr, OpOKp.of_run (v' := vs[n.toNat]) ?_ (RF.of_V hs (V_of_Hold _ _ _ hp hhi) (pure_ref hp))⟩
                intro w'
                have hA := (hT e de hde).agg w'
                rw [hag] at hA
                have hlt : n < (m : Int) := by omega
                cases hi' : P.info? e with
                | none => rw [hi'] at hsz; cases hsz
                | some i =>
                  rw [hi'] at hsz
                  simp only [Option.map_some, Option.some.injEq] at hsz
                  simp [execOp, hop, Instr.index, hx, hix, asIntOf, run_underlying hut, hc.1, hlt, Go.sizeOf, typeInfo, hi', hsz, part, hA, hi]
              split at hr
              · rename_i k' hk'
                split at hr
                · rename_i y hy
                  unfold intAt at hy
                  split at hy
                  · rename_i k2 n2 hcell
                    split at hy
                    · rename_i e2
                      simp only [decide_eq_true_eq] at e2
                      cases hy
                      subst e2
                      exact fin _ hcell rfl hr
                    · cases hy
                  · cases hy
                · cases hr
              · split at hr
                · rename_i v hv
                  split at hr
                  · rename_i hp
                    exact fin v hv hp hr
                  · cases hr
                · cases hr
            · cases hr
          · cases hr
        · cases hr
      · cases hr
    · cases hr
  · cases hr

/-- Components: the place of the one that is taken. -/
noncomputable def compTo (t i : Nat) : Loc → Loc
  | .slot u (j :: p) => if u = t ∧ j = i then .fly 0 p else .slot u (j :: p)
  | q => q

theorem HoldL_of {Own : Owner} {ρ : List Nat} {M : Mem} {ℓ : List Nat → Loc} : ∀ (as : List AVal) (vs : List Value) (k : Nat), as.length = vs.length →
    (∀ (i : Nat) (b : AVal) (v : Value), as[i]? = some b → vs[i]? = some v → Hold Own w ρ M (fun p => ℓ ((k + i) :: p)) b v) → HoldL Own w ρ M ℓ k as vs
  | [], [], k, _, _ => by simp only [HoldL]
  | b :: as, v :: vs, k, hl, h => by
    simp only [HoldL]
    refine ⟨by simpa using h 0 b v rfl rfl, HoldL_of as vs (k + 1) (by simpa using hl) fun i b' v' hb hv => ?_⟩
    have := h (i + 1) b' v' (by simpa using hb) (by simpa using hv)
    rwa [show k + (i + 1) = k + 1 + i by omega] at this
  | [], _ :: _, _, hl, _ => by simp at hl
  | _ :: _, [], _, hl, _ => by simp at hl

theorem step_extract (h : RSx B s a.tmps w) (x : Operand) (i : Nat) (hop : o.op = .extract x i) (K : KV) :
    StepOKp P B o a w (match s.rdo none x with
      | .tup vs => match vs[i]? with
        | some v => match v.pure with
          | true => K v s
          | false => match x with
            | .tmp t => K v (s.set t (.tup (vs.set i .undef)))
            | _ => none
        | none => none
      | _ => none) K := by
  obtain ⟨Own, ρ, M, hs⟩ := h
  have hk := rdo_ok hs none x
  intro r hr
  split at hr
  · rename_i vs hvs
    split at hr
    · rename_i v hv
      -- what x evaluates to
      have hold : ∃ ℓ us, a.eval x = .tuple us.toArray ∧ HoldL Own w ρ M ℓ 0 vs us ∧ (∀ t, x = .tmp t → ℓ = .slot t ∧ s.env[t]? = some (.tup vs) ∧ a.tmps[t]? = some (a.eval x)) := by
        cases x with
        | tmp t =>
          rcases hk with ⟨h1, h2⟩ | h1
          · have := hs.env t _ _ h1 h2
            rw [hvs] at this
            simp only [SlotOK, Hold] at this
            obtain ⟨us, hu, hl⟩ := this
            exact ⟨_, us, hu, hl, fun t' ht => by cases ht; exact ⟨rfl, hvs ▸ h1, h2⟩⟩
          · rw [h1] at hvs; cases hvs
        | const c =>
          have := hk.1
          rw [hvs] at this
          simp only [Hold] at this
          obtain ⟨us, hu, hl⟩ := this
          exact ⟨_, us, hu, hl, fun t' ht => by cases ht⟩
        | global g =>
          have := hk.1
          rw [hvs] at this
          simp only [Hold] at this
          obtain ⟨us, hu, hl⟩ := this
          exact ⟨_, us, hu, hl, fun t' ht => by cases ht⟩
        | func f =>
          have := hk.1
          rw [hvs] at this
          simp only [Hold] at this
          obtain ⟨us, hu, hl⟩ := this
          exact ⟨_, us, hu, hl, fun t' ht => by cases ht⟩
      obtain ⟨ℓ, us, hx, hl, hslot⟩ := hold
      obtain ⟨hlen, hget⟩ := HoldL_get vs us 0 hl
      have hi : i < us.length := by rw [← hlen]; exact (List.getElem?_eq_some_iff.1 hv).1
      have hhi := hget i v us[i] hv (List.getElem?_eq_getElem hi)
      have hrun : ∀ w', (execOp a.eval o).run P w' = .ok (.value us[i]) w' := by
        intro w'
        simp [execOp, hop, hx, Instr.extract, hi]
      split at hr
      · rename_i hp
        exact ⟨v, s, hr, OpOKp.of_run hrun (RF.of_V hs (V_of_Hold _ _ _ hp hhi) (pure_ref hp))⟩
      · cases x with
        | const c => cases hr
        | global g => cases hr
        | func f => cases hr
        | tmp t =>
          dsimp only at hr
          obtain ⟨rfl, h1, h2⟩ := hslot t rfl
          refine ⟨v, _, hr, OpOKp.of_run hrun ?_⟩
          have hset : s.set t (.tup (vs.set i .undef)) = s.raw t (.tup (vs.set i .undef)) := by
            rw [S.set_def]
            unfold S.raw
            rw [lget_of h1]
            simp [AVal.uniq]
          have htl : t < s.env.length := (List.getElem?_eq_some_iff.1 h1).1
          rw [hset]
          have other : ∀ (u : Nat) (b : AVal), s.env[u]? = some b → b.uniq = true → ∃ b', (s.raw t (.tup (vs.set i .undef))).env[u]? = some b' ∧ b'.uniq = true ∧ a.tmps[u]? = a.tmps[u]? := by
            intro u b hb hu
            have hne : t ≠ u := fun e => by subst e; rw [h1] at hb; cases hb; cases hu
            exact ⟨b, by simp [S.raw, List.getElem?_set, hne, hb], hu, rfl⟩
          have mvS : ∀ g (p : List Nat) (u : Nat), u ≠ t → Own g = some (.slot u p) → Own.mv (compTo t i) g = some (.slot u p) ∧ w.heap[g]? = w.heap[g]? := by
            intro g p u hne hg
            refine ⟨?_, rfl⟩
            cases p with
            | nil => simp [Owner.mv, hg, compTo]
            | cons j p => simp [Owner.mv, hg, compTo, hne]
          refine ⟨Own.mv (compTo t i), ρ, M, ⟨hs.wi.mv, hs.fr, hs.mle, hs.glob, hs.ext, fun g q hg => let ⟨q', hq, _⟩ := Owner.mv_some hg; hs.own0 g q' hq, hs.mnew, by simp [S.raw]; exact hs.len, ?_, hs.hlen, ?_⟩, ?_⟩
          · intro u b y hb hy
            simp only [S.raw, lset_eq, List.getElem?_set] at hb
            split at hb
            · rename_i e
              subst e
              first
                | (rw [if_pos htl] at hb; cases hb)
                | cases hb
              have hy' : y = a.eval (.tmp t) := by rw [h2] at hy; exact (Option.some.inj hy).symm
              subst hy'
              simp only [SlotOK, Hold]
              refine ⟨us, hx, HoldL_of _ _ 0 (by simp [hlen]) fun j b' v' hb' hv' => ?_⟩
              rw [List.getElem?_set] at hb'
              split at hb'
              · rename_i e
                split at hb'
                · cases hb'; simp [Hold, AVal.uniq, V]
                · cases hb'
              · rename_i e
                exact Hold_move (Ext.refl _) (MLe.refl _) b' v' _ _ (fun g p hg => ⟨by simp [Owner.mv, hg, compTo]; omega, rfl⟩) (hget j b' v' hb' hv')
            · rename_i hne
              exact (hs.env u b y hb hy).move (Ext.refl _) (MLe.refl _) (fun g p hg => mvS g p u (fun e => hne e.symm) hg) (fun u' b' _ hb' hu' => other u' b' hb' hu')
          · intro b cs hb hne
            exact (hs.heap b cs hb hne).move (Ext.refl _) (MLe.refl _) (fun g hg => ⟨by simp [Owner.mv, hg, compTo], rfl⟩) (fun g o hg => ⟨by simp [Owner.mv, hg, compTo], rfl⟩)
          · have hr : v.ref? = none := by
              cases v <;> simp only [AVal.ref?]
              · rename_i hp; simp [Hold, AVal.uniq, V] at hhi
              · rename_i hp; simp [Hold, AVal.uniq, V] at hhi
            rw [SlotOK_plain hr]
            exact Hold_move (Ext.refl _) (MLe.refl _) v _ _ _ (fun g p hg => ⟨by simp [Owner.mv, hg, compTo], rfl⟩) hhi
    · cases hr
  · cases hr

/-! ### what a slice's cells are -/
theorem sl_cells {Own : Owner} {ρ : List Nat} {M : Mem} (hw : WI Own M w) {ℓ : List Nat → Loc} {b : AVal} {v : Value} (hsl : b.isSl = true) (h : Hold Own w ρ M ℓ b v) :
    b.wide ∧ ∃ base cap, v = .slice base b.num cap ∧ b.num ≤ cap ∧ (cellPs ρ M b = [] ∨ ∃ g off, base = some ⟨g, off, none⟩ ∧
      ∀ i p, (cellPs ρ M b)[i]? = some p → ∃ c, w.cell? ⟨g, off + i, none⟩ = some c ∧ c.oneCell' = true ∧ p c) := by
  cases hu : b.uniq with
  | true =>
    obtain ⟨hwd, base, cap, hv, hl, hc⟩ := Hold_uniq hu h
    refine ⟨hwd, base, cap, hv, hl, ?_⟩
    rcases hc with ⟨_, h0⟩ | ⟨g, off, hb, _, arr, e, fz, ha, _, _, hr⟩
    · left
      have : b.num = 0 := by omega
      cases b <;> simp_all [AVal.num, cellPs, AVal.isSl]
    · exact .inr ⟨g, off, hb, fun i p hp => let ⟨c, h1, h2, h3⟩ := hr i p hp; ⟨c, by simp [World.cell?, ha, h1], h2, h3⟩⟩
  | false =>
    have hp : b.pure = true := by cases b <;> simp_all [AVal.isSl, AVal.uniq, AVal.pure]
    obtain ⟨_, hwd, base, cap, hv, hl, hc⟩ := (V_laid hsl).1 (V_of_Hold _ _ _ hp h)
    refine ⟨hwd, base, cap, hv, hl, ?_⟩
    rcases hc with hc | ⟨g, off, hb, hc⟩
    · exact .inl hc
    · exact .inr ⟨g, off, hb, fun i p hp => let ⟨c, h1, h2⟩ := hc i p hp; ⟨c, (hw.agree _ _ _ h1).1, (hw.agree _ _ _ h1).2, h2⟩⟩

theorem der_cells {Own : Owner} {ρ : List Nat} {M : Mem} (hs : RS B s a.tmps w Own ρ M) {d : Option TD} {x : Operand} (hsl : (s.der (s.rdo d x)).isSl = true) :
    (s.der (s.rdo d x)).wide ∧ ∃ base cap, a.eval x = .slice base (s.der (s.rdo d x)).num cap ∧ (s.der (s.rdo d x)).num ≤ cap ∧ (cellPs ρ M (s.der (s.rdo d x)) = [] ∨ ∃ g off, base = some ⟨g, off, none⟩ ∧
      ∀ i p, (cellPs ρ M (s.der (s.rdo d x)))[i]? = some p → ∃ c, w.cell? ⟨g, off + i, none⟩ = some c ∧ c.oneCell' = true ∧ p c) := by
  cases hc : (s.rdo d x).ref? with
  | none =>
    have hd : s.der (s.rdo d x) = s.rdo d x := by generalize s.rdo d x = y at *; cases y <;> simp_all [S.der, AVal.ref?]
    rw [hd] at hsl ⊢
    have hk := rdo_ok hs d x
    cases x with
    | tmp t =>
      rcases hk with ⟨h1, h2⟩ | h1
      · have := hs.env t _ _ h1 h2
        rw [SlotOK_plain hc] at this
        exact sl_cells hs.wi hsl this
      · rw [h1] at hsl; cases hsl
    | const c => exact sl_cells hs.wi hsl hk.1
    | global g => exact sl_cells hs.wi hsl hk.1
    | func f => exact sl_cells hs.wi hsl hk.1
  | some u =>
    cases hx : s.rdo d x <;> rw [hx] at hc hsl <;> simp only [AVal.ref?, reduceCtorEq, Option.some.injEq] at hc
    · simp [S.der, AVal.isSl] at hsl
    · subst hc
      obtain ⟨b, hb, hu, ht⟩ := rdo_sref hs hx
      have := hs.env _ _ _ hb ht
      rw [SlotOK_plain (uniq_ref hu)] at this
      simp only [S.der, lget_of hb] at hsl ⊢
      exact sl_cells hs.wi hsl this

/-! ### conversions that leave the world -/
theorem conv_bytes (src e dst : TypeId) (hs : P.underlying src = some (.slice e)) (he : P.underlying e = some (.int .u8)) (hd : P.underlying dst = some .string) {base : Option Addr} {cap : Nat} {l : List Int}
    (hc : l = [] ∨ ∃ g off, base = some ⟨g, off, none⟩ ∧ ∀ i n, l[i]? = some n → w.cell? ⟨g, off + i, none⟩ = some (.int .u8 n)) :
    (convert src dst (.slice base l.length cap)).run P w = .ok (.string ⟨(l.map toB).toArray⟩) w := by
  rcases hc with rfl | ⟨g, off, rfl, hc⟩
  · rw [run_convert_bytes_string w src dst e _ _ cap hs he hd]
    cases base with
    | none => simp [Conv.bytesToString]; rfl
    | some ad =>
      have := run_bytesToString (P := P) w ad 0 cap [] (by simp [loadCells, loadCellsFrom])
      simp only [List.map_nil, List.foldl_nil, List.length_nil] at this ⊢
      exact this
  · exact run_convert_bytes_arg w src e hs he g off _ cap l rfl (fun i hi => by
      rw [hc i l[i] (List.getElem?_eq_getElem hi)]
      simp [List.getD, List.getElem?_eq_getElem hi]) dst hd

theorem step_convI (hT : TysOK P cx) (h : RSx B s a.tmps w) (src t : TypeId) (x : Operand) (hop : o.op = .convert src t x) (ds d : TD) (hds : cx.ty.find src = some ds) (hd : cx.ty.find t = some d) {k : IntKind} (hk : d.k = .int k) (K : KV) :
    StepOKp P B o a w (match s.rdo none x with
      | .int _ n => K (.int k (k.wrap n)) s
      | _ => none) K := by
  obtain ⟨us, hus, hks⟩ := (hT src ds hds).und
  obtain ⟨ud, hud, hkd⟩ := (hT t d hd).und
  intro r hr
  rw [hk] at hkd; simp only [kindOK] at hkd; subst hkd
  split at hr
  · rename_i k' n hx
    have hx' := rdo_int h hx
    refine ⟨_, s, hr, OpOKp.of_run (v' := .int k (k.wrap n)) ?_ (h.flat (fun _ _ => by simp only [V]) rfl)⟩
    intro w'
    simp [execOp, hop, hx', Go.convert, run_underlying hus, run_underlying hud, Conv.intToInt]
  · cases hr

theorem step_convert (hT : TysOK P cx) (h : RSx B s a.tmps w) (src t : TypeId) (x : Operand) (hop : o.op = .convert src t x) (ds d : TD) (hds : cx.ty.find src = some ds) (hd : cx.ty.find t = some d) (K : KV)
    (hnot : ∀ e, d.k ≠ .slice e (.ints .u8)) :
    StepOK P B o a w (match d.k with
      | .int k => match s.rdo none x with
        | .int _ n => K (.int k (k.wrap n)) s
        | _ => none
      | .str => match s.rdo none x with
        | .str a => K (.str a) s
        | v => match ds.k with
          | .slice _ (.ints .u8) => match s.der v with
            | .ints _ .u8 l => K (.str (l.map toB)) s
            | _ => none
          | _ => none
      | .slice _ (.ints .u8) => match s.rdo none x with
        | .str a => gd (decide (a.length ≤ LIM)) (K (.ints true .u8 (a.map ofB)) s)
        | _ => none
      | _ => none) K := by
  obtain ⟨us, hus, hks⟩ := (hT src ds hds).und
  obtain ⟨ud, hud, hkd⟩ := (hT t d hd).und
  intro r hr
  split at hr
  · rename_i k hk
    rw [hk] at hkd; simp only [kindOK] at hkd; subst hkd
    split at hr
    · rename_i k' n hx
      have hx' := rdo_int h hx
      refine ⟨_, s, hr, OpOK.of_run (v' := .int k (k.wrap n)) ?_ (h.flat (fun _ _ => by simp only [V]) rfl)⟩
      simp [execOp, hop, hx', Go.convert, run_underlying hus, run_underlying hud, Conv.intToInt]
    · cases hr
  · rename_i hk
    rw [hk] at hkd; simp only [kindOK] at hkd; subst hkd
    split at hr
    · rename_i l hx
      have hx' := rdo_str h hx
      refine ⟨_, s, hr, OpOK.of_run (v' := strV l) ?_ (h.flat (fun _ _ => by simp only [V]) rfl)⟩
      simp [execOp, hop, hx', Go.convert, run_underlying hus, run_underlying hud]
    · split at hr
      · rename_i e hsk
        rw [hsk] at hks; simp only [kindOK, skOK] at hks
        obtain ⟨rfl, he, _⟩ := hks
        split at hr
        · rename_i u l hl
          obtain ⟨Own, ρ, M, hs⟩ := h
          have hsl : (s.der (s.rdo none x)).isSl = true := by rw [hl]; rfl
          obtain ⟨_, base, cap, hv, _, hc⟩ := der_cells hs hsl
          rw [hl] at hv hc
          refine ⟨_, s, hr, OpOK.of_run (v' := strV (l.map toB)) ?_ (RF.of_V hs (by simp only [V]) rfl)⟩
          have := conv_bytes (P := P) (w := w) src e t hus he hud (base := base) (cap := cap) (l := l) (by
            rcases hc with hc | ⟨g, off, hb, hc⟩
            · exact .inl (by simpa [cellPs] using hc)
            · refine .inr ⟨g, off, hb, fun i n hn => ?_⟩
              obtain ⟨c, h1, _, h2⟩ := hc i (fun c => c = .int .u8 n) (by simp only [cellPs]; rw [List.getElem?_map, hn]; rfl)
              exact h2 ▸ h1)
          simp [execOp, hop, hv, AVal.num, this]
        · cases hr
      · cases hr
  · rename_i e hk
    exact absurd hk (hnot e)
  · cases hr

/-! ### least and greatest -/
theorem minA_ok {K : AVal → Option Res} : ∀ (l : List AVal) (vs : List Value) (x : AVal) (v : Value) (ρ : List Nat) (M : Mem), V ρ M x v → VL ρ M l vs → ∀ r, minA l x K = some r →
    ∃ y u, K y = some r ∧ y.ref? = none ∧ (∀ ρ M, V ρ M y u ∨ (l = [] ∧ y = x ∧ u = v)) ∧ ∀ w, (vs.foldlM Builtin.min2 v).run P w = .ok u w
  | [], [], x, v, ρ, M, hv, _, r, hr => ⟨x, v, hr, V_ref hv, fun _ _ => .inr ⟨rfl, rfl, rfl⟩, by simp⟩
  | y :: l, u :: vs, x, v, ρ, M, hv, hl, r, hr => by
    simp only [VL] at hl
    cases y <;> cases x <;> simp only [minA, reduceCtorEq] at hr
    rename_i k' n k m
    have h1 := hl.1
    simp only [V] at hv h1
    subst hv h1
    obtain ⟨y, u, hK, hn, hy, hrun⟩ := minA_ok l vs (.int k (if n < m then n else m)) (.int k (if n < m then n else m)) ρ M (by simp only [V]) hl.2 r hr
    refine ⟨y, u, hK, hn, fun ρ M => .inl ?_, by simp [Builtin.min2, hrun]⟩
    rcases hy ρ M with hy | ⟨_, rfl, rfl⟩
    · exact hy
    · simp only [V]
  | [], _ :: _, _, _, _, _, _, hl, _, _ => by simp only [VL] at hl
  | _ :: _, [], _, _, _, _, _, hl, _, _ => by simp only [VL] at hl

theorem maxA_ok {K : AVal → Option Res} : ∀ (l : List AVal) (vs : List Value) (x : AVal) (v : Value) (ρ : List Nat) (M : Mem), V ρ M x v → VL ρ M l vs → ∀ r, maxA l x K = some r →
    ∃ y u, K y = some r ∧ y.ref? = none ∧ (∀ ρ M, V ρ M y u ∨ (l = [] ∧ y = x ∧ u = v)) ∧ ∀ w, (vs.foldlM Builtin.max2 v).run P w = .ok u w
  | [], [], x, v, ρ, M, hv, _, r, hr => ⟨x, v, hr, V_ref hv, fun _ _ => .inr ⟨rfl, rfl, rfl⟩, by simp⟩
  | y :: l, u :: vs, x, v, ρ, M, hv, hl, r, hr => by
    simp only [VL] at hl
    cases y <;> cases x <;> simp only [maxA, reduceCtorEq] at hr
    rename_i k' n k m
    have h1 := hl.1
    simp only [V] at hv h1
    subst hv h1
    obtain ⟨y, u, hK, hn, hy, hrun⟩ := maxA_ok l vs (.int k (if m < n then n else m)) (.int k (if m < n then n else m)) ρ M (by simp only [V]) hl.2 r hr
    refine ⟨y, u, hK, hn, fun ρ M => .inl ?_, by simp [Builtin.max2, hrun]⟩
    rcases hy ρ M with hy | ⟨_, rfl, rfl⟩
    · exact hy
    · simp only [V]
  | [], _ :: _, _, _, _, _, _, hl, _, _ => by simp only [VL] at hl
  | _ :: _, [], _, _, _, _, _, hl, _, _ => by simp only [VL] at hl

/-- Operands that are whole numbers but for the first. -/
theorem rdos_V {Own : Owner} {ρ : List Nat} {M : Mem} (hs : RS B s a.tmps w Own ρ M) (d : Option TD) : ∀ (xs : List Operand), (∀ y, y ∈ xs.map (s.rdo d) → y.pure = true) → VL ρ M (xs.map (s.rdo d)) (xs.map a.eval)
  | [], _ => by simp only [List.map_nil, VL]
  | x :: xs, h => by
    simp only [List.map_cons, VL]
    exact ⟨rdo_pure hs d x (h _ (by simp)), rdos_V hs d xs fun y hy => h y (by simp only [List.map_cons, List.mem_cons]; exact .inr hy)⟩

theorem minA_ints {K : AVal → Option Res} : ∀ (l : List AVal) (x : AVal) (r : Res), l ≠ [] → minA l x K = some r → x.pure = true ∧ ∀ y, y ∈ l → y.pure = true
  | [], _, _, h, _ => absurd rfl h
  | y :: l, x, r, _, hr => by
    cases y <;> cases x <;> simp only [minA, reduceCtorEq] at hr
    refine ⟨rfl, fun z hz => ?_⟩
    rcases List.mem_cons.1 hz with rfl | hz
    · rfl
    · cases l with
      | nil => cases hz
      | cons q l => exact (minA_ints (q :: l) _ r (by simp) hr).2 z hz
theorem maxA_ints {K : AVal → Option Res} : ∀ (l : List AVal) (x : AVal) (r : Res), l ≠ [] → maxA l x K = some r → x.pure = true ∧ ∀ y, y ∈ l → y.pure = true
  | [], _, _, h, _ => absurd rfl h
  | y :: l, x, r, _, hr => by
    cases y <;> cases x <;> simp only [maxA, reduceCtorEq] at hr
    refine ⟨rfl, fun z hz => ?_⟩
    rcases List.mem_cons.1 hz with rfl | hz
    · rfl
    · cases l with
      | nil => cases hz
      | cons q l => exact (maxA_ints (q :: l) _ r (by simp) hr).2 z hz

theorem step_min (h : RSx B s a.tmps w) (c : Call) (hop : o.op = .call c) (hc : c.callee = .builtin .min) (K : KV) :
    StepOKp P B o a w (match c.args.toList.map (s.rdo none) with
      | x :: y :: l => minA (y :: l) x fun v => K v s
      | _ => none) K := by
  obtain ⟨Own, ρ, M, hs⟩ := h
  intro r hr
  cases hx : c.args.toList with
  | nil => rw [hx] at hr; cases hr
  | cons x l =>
    cases l with
    | nil => rw [hx] at hr; cases hr
    | cons y l =>
      rw [hx] at hr
      simp only [List.map_cons] at hr
      obtain ⟨p1, p2⟩ := minA_ints _ _ r (by simp) hr
      have hl := rdos_V hs none (y :: l) (by simpa using p2)
      obtain ⟨v, u, hK, hn, hv, hrun⟩ := minA_ok (P := P) _ _ _ _ ρ M (rdo_pure hs none x p1) hl r hr
      refine ⟨v, s, hK, OpOKp.of_run (v' := u) ?_ (RF.of_V hs ?_ hn)⟩
      · intro w'
        have e : (c.args.map a.eval).toList = a.eval x :: (y :: l).map a.eval := by rw [Array.toList_map, hx]; rfl
        simp only [execOp, hop, resolve, hc, Sem.run_bind, Sem.run_pure, Result.andThen_ok, invoke, builtin, Builtin.min_, e, hrun]
      · rcases hv ρ M with hv | ⟨h0, _⟩
        · exact hv
        · simp at h0

theorem step_max (h : RSx B s a.tmps w) (c : Call) (hop : o.op = .call c) (hc : c.callee = .builtin .max) (K : KV) :
    StepOKp P B o a w (match c.args.toList.map (s.rdo none) with
      | x :: y :: l => maxA (y :: l) x fun v => K v s
      | _ => none) K := by
  obtain ⟨Own, ρ, M, hs⟩ := h
  intro r hr
  cases hx : c.args.toList with
  | nil => rw [hx] at hr; cases hr
  | cons x l =>
    cases l with
    | nil => rw [hx] at hr; cases hr
    | cons y l =>
      rw [hx] at hr
      simp only [List.map_cons] at hr
      obtain ⟨p1, p2⟩ := maxA_ints _ _ r (by simp) hr
      have hl := rdos_V hs none (y :: l) (by simpa using p2)
      obtain ⟨v, u, hK, hn, hv, hrun⟩ := maxA_ok (P := P) _ _ _ _ ρ M (rdo_pure hs none x p1) hl r hr
      refine ⟨v, s, hK, OpOKp.of_run (v' := u) ?_ (RF.of_V hs ?_ hn)⟩
      · intro w'
        have e : (c.args.map a.eval).toList = a.eval x :: (y :: l).map a.eval := by rw [Array.toList_map, hx]; rfl
        simp only [execOp, hop, resolve, hc, Sem.run_bind, Sem.run_pure, Result.andThen_ok, invoke, builtin, Builtin.max_, e, hrun]
      · rcases hv ρ M with hv | ⟨h0, _⟩
        · exact hv
        · simp at h0

/-! ### parts -/
theorem bound_ok (h : RSx B s a.tmps w) {d : Int} {x : Option Operand} {n : Int} (e : bound d s x = some n) : (x = none ∧ n = d) ∨ ∃ y k, x = some y ∧ a.eval y = .int k n := by
  unfold bound at e
  split at e
  · exact .inl ⟨rfl, (Option.some.inj e).symm⟩
  · rename_i y
    split at e
    · rename_i k m hm
      cases e
      exact .inr ⟨y, k, rfl, rdo_int h hm⟩
    · cases e

theorem run_bounds {w0 : World} (h : RSx B s a.tmps w0) (isSlice : Bool) (len cap : Nat) (hlc : len ≤ cap) {lo hi : Option Operand} {l m : Int} (hl : bound 0 s lo = some l) (hm : bound len s hi = some m) (h0 : 0 ≤ l) (h1 : l ≤ m) (h2 : m ≤ len) (w : World) :
    (Instr.sliceBounds isSlice len cap (lo.map a.eval) (hi.map a.eval) none).run P w = .ok (l.toNat, m.toNat, cap) w := by
  have e1 : ∀ (k : IntKind) (y : Nat) (code : BoundsCode), m ≤ y → (Instr.sliceBound (.int k m) y code).run P w = .ok m.toNat w := fun k y code hy => run_sliceBound w k m y code (by omega) hy
  have e2 : ∀ (k : IntKind) (y : Nat) (code : BoundsCode), l ≤ y → (Instr.sliceBound (.int k l) y code).run P w = .ok l.toNat w := fun k y code hy => run_sliceBound w k l y code h0 hy
  rcases bound_ok h hl with ⟨rfl, rfl⟩ | ⟨y, k, rfl, hy⟩ <;> rcases bound_ok h hm with ⟨rfl, rfl⟩ | ⟨z, k', rfl, hz⟩
  · simp [Instr.sliceBounds]
  · simp [Instr.sliceBounds, hz, e1 _ cap _ (by omega)]
  · simp [Instr.sliceBounds, hy, e2 _ len _ (by omega)]
  · simp [Instr.sliceBounds, hy, hz, e1 _ cap _ (by omega), e2 _ m.toNat _ (by omega)]

theorem cut_get {α : Type} (l : List α) (lo hi i : Nat) (x : α) (h : (cut l lo hi)[i]? = some x) : l[lo + i]? = some x ∧ i < hi - lo := by
  unfold cut at h
  rw [List.getElem?_take] at h
  split at h
  · rename_i hi'; rw [List.getElem?_drop] at h; exact ⟨h, hi'⟩
  · cases h

theorem cut_length {α : Type} (l : List α) (lo hi : Nat) (h : hi ≤ l.length) : (cut l lo hi).length = hi - lo := by simp [cut]; omega

theorem flatten_cut {α : Type} (z : Nat) : ∀ (l : List (List α)) (lo hi : Nat), (∀ r, r ∈ l → r.length = z) → ∀ i x, (cut l lo hi).flatten[i]? = some x → l.flatten[lo * z + i]? = some x := by
  intro l lo hi hw i x hx
  have hdrop : ∀ (l : List (List α)) (lo : Nat), (∀ r, r ∈ l → r.length = z) → (l.drop lo).flatten = l.flatten.drop (lo * z) := by
    intro l
    induction l with
    | nil => intro lo _; simp
    | cons r l ih =>
      intro lo hw
      cases lo with
      | zero => simp
      | succ lo =>
        have hr := hw r (by simp)
        rw [List.drop_succ_cons, ih lo (fun r hr => hw r (by simp [hr])), List.flatten_cons, Nat.succ_mul, Nat.add_comm, ← List.drop_drop]
        congr 1
        rw [← hr, List.drop_left]
  have htake : ∀ (l : List (List α)) (n : Nat) (i : Nat) (x : α), (l.take n).flatten[i]? = some x → l.flatten[i]? = some x := by
    intro l n i x h
    have : l.flatten = (l.take n).flatten ++ (l.drop n).flatten := by rw [← List.flatten_append, List.take_append_drop]
    rw [this, List.getElem?_append_left (List.getElem?_eq_some_iff.1 h).1]
    exact h
  unfold cut at hx
  have := htake _ _ _ _ hx
  rwa [hdrop l lo hw, List.getElem?_drop] at this

/-- The cells of a slice's part. -/
theorem cutA_cells (ρ : List Nat) (M : Mem) {b : AVal} (hsl : b.isSl = true) (hwd : b.wide) {lo hi : Nat} (h : hi ≤ b.num) :
    (cutA b lo hi).isSl = true ∧ (cutA b lo hi).uniq = b.uniq ∧ (cutA b lo hi).wid = b.wid ∧ (cutA b lo hi).num = hi - lo ∧ (cutA b lo hi).wide ∧
    ∀ i p, (cellPs ρ M (cutA b lo hi))[i]? = some p → (cellPs ρ M b)[lo * b.wid + i]? = some p := by
  cases b with
  | ints u k l =>
    refine ⟨rfl, rfl, rfl, cut_length l lo hi h, trivial, fun i p hp => ?_⟩
    simp only [cellPs, cutA, List.getElem?_map, Option.map_eq_some_iff] at hp ⊢
    obtain ⟨x, hx, rfl⟩ := hp
    exact ⟨x, by rw [show AVal.wid (.ints u k l) = 1 from rfl, Nat.mul_one]; exact (cut_get l lo hi i x hx).1, rfl⟩
  | strs u l =>
    refine ⟨rfl, rfl, rfl, cut_length l lo hi h, trivial, fun i p hp => ?_⟩
    simp only [cellPs, cutA, List.getElem?_map, Option.map_eq_some_iff] at hp ⊢
    obtain ⟨x, hx, rfl⟩ := hp
    exact ⟨x, by rw [show AVal.wid (.strs u l) = 1 from rfl, Nat.mul_one]; exact (cut_get l lo hi i x hx).1, rfl⟩
  | strs2 u l =>
    refine ⟨rfl, rfl, rfl, cut_length l lo hi h, trivial, fun i p hp => ?_⟩
    simp only [cellPs, cutA] at hp ⊢
    rw [List.flatMap_def] at hp ⊢
    have e : List.map (fun p : List UInt8 × List UInt8 => [fun c => c = strV p.1, fun c => c = strV p.2]) (cut l lo hi) = cut (List.map (fun p : List UInt8 × List UInt8 => [fun c => c = strV p.1, fun c => c = strV p.2]) l) lo hi := by
      simp [cut, List.map_take, List.map_drop]
    rw [e] at hp
    exact flatten_cut 2 _ lo hi (by intro r hr; simp only [List.mem_map] at hr; obtain ⟨p, _, rfl⟩ := hr; rfl) i p hp
  | rows u z l =>
    refine ⟨rfl, rfl, rfl, cut_length l lo hi h, fun r hr => hwd r (List.mem_of_mem_drop (List.mem_of_mem_take hr)), fun i p hp => ?_⟩
    simp only [cellPs, cutA] at hp ⊢
    rw [List.getElem?_map, Option.map_eq_some_iff] at hp ⊢
    obtain ⟨x, hx, rfl⟩ := hp
    exact ⟨x, flatten_cut z l lo hi hwd i x hx, rfl⟩
  | _ => cases hsl

theorem cutStr (l : List UInt8) (lo hi : Nat) (h : hi ≤ l.length) : (⟨l.toArray⟩ : ByteArray).extract lo hi = ⟨(cut l lo hi).toArray⟩ := by
  apply ByteArray.ext
  rw [ByteArray.data_extract]
  apply Array.ext'
  simp [cut, List.extract_eq_take_drop]

theorem run_slice_sl {w0 : World} (h : RSx B s a.tmps w0) (t e : TypeId) (i : TypeInfo) (hu : P.underlying t = some (.slice e)) (hi : P.info? e = some i) (x : Operand) (lo hi' : Option Operand) (hop : o.op = .slice t x lo hi' none) {base : Option Addr} {n cap : Nat}
    (hx : a.eval x = .slice base n cap) (hnc : n ≤ cap) {l m : Int} (hl : bound 0 s lo = some l) (hm : bound n s hi' = some m) (h0 : 0 ≤ l) (h1 : l ≤ m) (h2 : m ≤ n) (w : World) :
    (execOp a.eval o).run P w = .ok (.value (.slice (if cap = l.toNat then base else base.map (·.add (l.toNat * i.size))) (m.toNat - l.toNat) (cap - l.toNat))) w := by
  have hb := run_bounds (P := P) h true n cap hnc hl hm h0 h1 h2 w
  simp [execOp, hop, Instr.sliceAt, run_underlying hu, Instr.slice, hx, hb, Go.sizeOf, typeInfo, hi]

theorem step_slice (hT : TysOK P cx) (h : RSx B s a.tmps w) (t : TypeId) (x : Operand) (lo hi : Option Operand) (hop : o.op = .slice t x lo hi none) (m : Nat) (K : KV) :
    StepOKp P B o a w (match fits (cx.ty.find t) (s.rdo none x) with
      | false => none
      | true => match (s.rdo none x).lenS? with
        | some n => match bound 0 s lo with
          | some l => match bound n s hi with
            | some h => gd (decide (0 ≤ l ∧ l ≤ h ∧ h ≤ n)) (match (s.rdo none x).pure with
              | true => K (cutA (s.rdo none x) l.toNat h.toNat) s
              | false => match m with
                | 1 => K (cutA (s.rdo none x) l.toNat h.toNat) (s.drop x)
                | 2 => K (cutA (s.rdo none x) l.toNat h.toNat).fz (s.drop x)
                | _ => none)
            | none => none
          | none => none
        | none => none) K := by
  intro r hr
  split at hr
  · cases hr
  · rename_i hf
    split at hr
    · rename_i n hn
      split at hr
      · rename_i l hl
        split at hr
        · rename_i q hq
          have hg := gd_some hr
          clear hr
          obtain ⟨hc, hr⟩ := hg
          simp only [decide_eq_true_eq] at hc
          obtain ⟨h0, h1, h2⟩ := hc
          rcases fits_cases hT hf with ⟨str, hstr, hu⟩ | ⟨k, hk, _⟩ | ⟨hsl, hw0, e, i, hu, hi', hsz⟩
          · -- a text
            rw [hstr] at hn hr
            simp only [AVal.lenS?, AVal.len?, Option.some.injEq] at hn
            subst hn
            simp only [AVal.pure, cutA] at hr
            have hx := rdo_str h hstr
            have hb := run_bounds (P := P) h false str.length str.length (Nat.le_refl _) hl hq h0 h1 h2
            refine ⟨_, s, hr, OpOKp.of_run (v' := strV (cut str l.toNat q.toNat)) ?_ (h.flat (fun _ _ => by simp only [V]) rfl)⟩
            have hsz : (⟨str.toArray⟩ : ByteArray).size = str.length := strV_size str
            intro w'
            simp [execOp, hop, Instr.sliceAt, run_underlying hu, Instr.slice, hx, hsz, hb, cutStr str l.toNat q.toNat (by omega)]
          · rw [hk] at hn
            cases hn
          · have hnum : n = (s.rdo none x).num := by
              rw [show (s.rdo none x).lenS? = (s.rdo none x).len? by generalize s.rdo none x = y at *; cases y <;> simp_all [AVal.isSl, AVal.lenS?], len_num hsl] at hn
              exact (Option.some.inj hn).symm
            subst hnum
            have hnr : (s.rdo none x).ref? = none := by generalize s.rdo none x = y at *; cases y <;> simp_all [AVal.isSl, AVal.ref?]
            have hlh : q.toNat ≤ (s.rdo none x).num := by omega
            obtain ⟨Own, ρ, M, hs⟩ := h
            have hder : s.der (s.rdo none x) = s.rdo none x := by generalize s.rdo none x = y at *; cases y <;> simp_all [S.der, AVal.ref?]
            have hcell := der_cells hs (d := none) (x := x) (by rw [hder]; exact hsl)
            rw [hder] at hcell
            obtain ⟨hwd, base, cap, hv, hnc, _⟩ := hcell
            have hrun := run_slice_sl (P := P) ⟨Own, ρ, M, hs⟩ t e i hu hi' x lo hi hop hv hnc hl hq h0 h1 h2
            rw [hsz] at hrun
            obtain ⟨c1, c2, c3, c4, c5, c6⟩ := cutA_cells ρ M hsl hwd hlh (lo := l.toNat)
            split at hr
            · rename_i hp
              have hu0 : (s.rdo none x).uniq = false := by generalize s.rdo none x = y at *; cases y <;> simp_all [AVal.pure, AVal.uniq, AVal.isSl]
              have hV := rdo_pure hs none x hp
              obtain ⟨_, _, base', cap', hv', _, hcl⟩ := (V_laid hsl).1 hV
              rw [hv] at hv'
              cases hv'
              refine ⟨_, s, hr, OpOKp.of_run hrun (RF.of_V hs ?_ ?_)⟩
              · rw [V_laid c1]
                refine ⟨by rw [c2]; exact hu0, c5, _, _, by rw [c4], by omega, ?_⟩
                rcases hcl with hcl | ⟨g, off, hb, hcl⟩
                · left
                  cases hz : cellPs ρ M (cutA (s.rdo none x) l.toNat q.toNat) with
                  | nil => rfl
                  | cons p ps => have := c6 0 p (by rw [hz]; rfl); rw [hcl] at this; simp at this
                · subst hb
                  by_cases hz : cellPs ρ M (cutA (s.rdo none x) l.toNat q.toNat) = []
                  · exact .inl hz
                  · have hlt : l.toNat < q.toNat := by
                      rcases Nat.lt_or_ge l.toNat q.toNat with h | h
                      · exact h
                      · exfalso; apply hz
                        generalize s.rdo none x = y at *
                        cases y <;> simp_all [cutA, cut, cellPs, AVal.isSl, show q.toNat - l.toNat = 0 by omega]
                    have hne : cap ≠ l.toNat := by omega
                    refine .inr ⟨g, off + l.toNat * (s.rdo none x).wid, by simp [hne, Addr.add_mid], fun i p hp => ?_⟩
                    have := hcl _ p (c6 i p hp)
                    rwa [Nat.add_assoc]
              · generalize cutA (s.rdo none x) l.toNat q.toNat = y at *; cases y <;> simp_all [AVal.isSl, AVal.ref?]
            · rename_i hp
              have hu1 : (s.rdo none x).uniq = true := by generalize s.rdo none x = y at *; cases y <;> simp_all [AVal.pure, AVal.uniq, AVal.isSl]
              -- taken
              have hk := rdo_ok hs none x
              have taken : ∃ Own', RS B (s.drop x) a.tmps w Own' ρ M ∧ HoldU Own' w ρ M (.fly 0 []) (s.rdo none x) (a.eval x) := by
                cases x with
                | tmp t' =>
                  rcases hk with ⟨k1, k2⟩ | k1
                  · obtain ⟨O', h', hf'⟩ := hs.take k1 k2
                    rw [SlotOK_plain hnr] at hf'
                    exact ⟨O', h', Hold_uniq hu1 hf'⟩
                  · rw [k1] at hu1; cases hu1
                | const c => exact ⟨Own, hs, Hold_uniq hu1 hk.1⟩
                | global g => exact ⟨Own, hs, Hold_uniq hu1 hk.1⟩
                | func f => exact ⟨Own, hs, Hold_uniq hu1 hk.1⟩
              obtain ⟨O', h', hU⟩ := taken
              have hU' : HoldU O' w ρ M (.fly 0 []) (cutA (s.rdo none x) l.toNat q.toNat) (.slice (if cap = l.toNat then base else base.map (·.add (l.toNat * (s.rdo none x).wid))) (q.toNat - l.toNat) (cap - l.toNat)) := by
                obtain ⟨_, base', cap', hv', _, hcase⟩ := hU
                rw [hv] at hv'
                cases hv'
                refine ⟨c5, _, _, by rw [c4], by omega, ?_⟩
                rcases hcase with ⟨hb, hz⟩ | ⟨g, off, hb, ho, arr, ee, fz, ha, hfz, hsize, hrr⟩
                · left; subst hb; refine ⟨by split <;> rfl, by omega⟩
                · subst hb
                  right
                  by_cases hcl : cap = l.toNat
                  · refine ⟨g, off, by simp [hcl], ho, arr, ee, fz, ha, hfz, by rw [hcl]; simp; have : cap * (s.rdo none x).wid ≥ 0 := Nat.zero_le _; omega, fun i p hp => ?_⟩
                    have hnil : (cutA (s.rdo none x) l.toNat q.toNat).num = 0 := by omega
                    exfalso
                    have hlq : q.toNat - l.toNat = 0 := by omega
                    generalize s.rdo none x = y at *
                    cases y <;> simp_all [cutA, cut, cellPs, AVal.isSl]
                  · refine ⟨g, off + l.toNat * (s.rdo none x).wid, by simp [hcl, Addr.add_mid], ho, arr, ee, fz, ha, hfz, ?_, fun i p hp => ?_⟩
                    · have : l.toNat * (s.rdo none x).wid + (cap - l.toNat) * (s.rdo none x).wid = cap * (s.rdo none x).wid := by rw [← Nat.add_mul]; congr 1; omega
                      rw [c3]; omega
                    · have := hrr _ p (c6 i p hp)
                      rwa [Nat.add_assoc]
              have hH : Hold O' w ρ M (.fly 0) (cutA (s.rdo none x) l.toNat q.toNat) (.slice (if cap = l.toNat then base else base.map (·.add (l.toNat * (s.rdo none x).wid))) (q.toNat - l.toNat) (cap - l.toNat)) := by
                have hcu : (cutA (s.rdo none x) l.toNat q.toNat).uniq = true := by rw [c2]; exact hu1
                generalize cutA (s.rdo none x) l.toNat q.toNat = y at *
                cases y <;> simp_all [Hold, AVal.uniq]
              have hrr : (cutA (s.rdo none x) l.toNat q.toNat).ref? = none := by generalize cutA (s.rdo none x) l.toNat q.toNat = y at *; cases y <;> simp_all [AVal.isSl, AVal.ref?]
              split at hr
              · exact ⟨_, _, hr, OpOKp.of_run hrun ⟨O', ρ, M, h', by rw [SlotOK_plain hrr]; exact hH⟩⟩
              · obtain ⟨O2, M2, h2', hv2, _, _⟩ := h'.opened 0 (a := cutA (s.rdo none x) l.toNat q.toNat) (by rw [SlotOK_plain hrr]; exact hH)
                exact ⟨_, _, hr, OpOKp.of_run hrun (RF.of_V h2' hv2 (fz_ref _))⟩
              · cases hr
        · cases hr
      · cases hr
    · cases hr

/-- A part of an array that stays. -/
theorem intsC_get {k : IntKind} : ∀ {cs : List AVal} {xs : List Int}, intsC k cs = some xs → cs = xs.map (.int k)
  | [], xs, h => by simp [intsC] at h; subst h; rfl
  | .int k' n :: cs, xs, h => by
    unfold intsC at h
    split at h
    · rename_i e
      simp only [decide_eq_true_eq] at e
      subst e
      simp only [Option.map_eq_some_iff] at h
      obtain ⟨ys, hy, rfl⟩ := h
      rw [intsC_get hy]
      rfl
    · cases h

theorem step_sliceRA (hT : TysOK P cx) (h : RSx B s a.tmps w) (t : TypeId) (x : Operand) (lo hi : Option Operand) (hop : o.op = .slice t x lo hi none) {cs : List AVal} (hx : s.rdo none x = .rptr cs) (K : KV) :
    StepOKp P B o a w (sliceRA cx t cs lo hi s K) K := by
  intro r hr
  unfold sliceRA at hr
  split at hr
  · rename_i d hd
    obtain ⟨ut, hut, hkt⟩ := (hT t d hd).und
    split at hr
    · rename_i n e z hk
      split at hr
      · rename_i hz
        simp only [Bool.and_eq_true] at hz
        have hz1 := Nat.eq_of_beq_eq_true hz.1
        have hn := Nat.le_of_ble_eq_true hz.2
        subst hz1
        split at hr
        · rename_i de hde
          split at hr
          · rename_i k hke
            split at hr
            · rename_i l hl
              split at hr
              · rename_i q hq
                obtain ⟨hc, hr⟩ := gd_some hr
                simp only [decide_eq_true_eq] at hc
                obtain ⟨h0, h1, h2⟩ := hc
                split at hr
                · rename_i xs hxs
                  rw [hk] at hkt
                  simp only [kindOK] at hkt
                  obtain ⟨rfl, hsz⟩ := hkt
                  obtain ⟨Own, ρ, M, hs⟩ := h
                  have hv := rdo_pure hs none x (by rw [hx]; rfl)
                  rw [hx] at hv
                  simp only [V] at hv
                  obtain ⟨g, off, hv, hcl⟩ := hv
                  have hrun : ∀ w', (execOp a.eval o).run P w' = .ok (.value (.slice (some (if n = l.toNat then ⟨g, off, none⟩ else (⟨g, off, none⟩ : Addr).add (l.toNat * 1))) (q.toNat - l.toNat) (n - l.toNat))) w' := by
                    intro w'
                    have hb := run_bounds (P := P) ⟨Own, ρ, M, hs⟩ false n n (Nat.le_refl _) hl hq h0 h1 h2 w'
                    cases hi' : P.info? e with
                    | none => rw [hi'] at hsz; cases hsz
                    | some i =>
                      rw [hi'] at hsz
                      simp only [Option.map_some, Option.some.injEq] at hsz
                      simp [execOp, hop, Instr.sliceAt, run_underlying hut, hv, hb, Go.sizeOf, typeInfo, hi', hsz, Instr.sureAddr]
                  refine ⟨_, s, hr, OpOKp.of_run hrun (RF.of_V hs ?_ rfl)⟩
                  have hcut := intsC_get hxs
                  have hlen : xs.length = q.toNat - l.toNat := by
                    have := congrArg List.length hcut
                    rw [cut_length _ _ _ (by omega), List.length_map] at this
                    exact this.symm
                  simp only [V]
                  refine ⟨trivial, _, _, by rw [hlen], by omega, ?_⟩
                  by_cases hz : xs = []
                  · left; rw [hz]; rfl
                  · right
                    have hlt : 0 < xs.length := List.length_pos_iff.2 hz
                    have hne : n ≠ l.toNat := by omega
                    refine ⟨g, off + l.toNat, by simp [hne, Addr.add_mid], fun i p hp => ?_⟩
                    rw [List.getElem?_map, Option.map_eq_some_iff] at hp
                    obtain ⟨y, hy, rfl⟩ := hp
                    have hyc : (cut cs l.toNat q.toNat)[i]? = some (.int k y) := by rw [hcut, List.getElem?_map, hy]; rfl
                    obtain ⟨k1, _⟩ := cut_get _ _ _ _ _ hyc
                    rw [VC_iff] at hcl
                    obtain ⟨c, m1, m2⟩ := hcl (l.toNat + i) _ k1
                    refine ⟨c, by rw [Nat.add_assoc]; exact m1, ?_⟩
                    simpa only [V] using m2
                · cases hr
              · cases hr
            · cases hr
          · cases hr
        · cases hr
      · cases hr
    · cases hr
  · cases hr

end
end Go.Proofs.YtognccpmaljamaaGreatDoor.Sa

/- AS, part S7: worlds turned: blocks made and written; rows made, written, grown (the state's side). -/
namespace Go.Proofs.YtognccpmaljamaaGreatDoor.Sa
open Go
variable [GlobMem]

/-! ### worlds -/
noncomputable def putArr (arr : Array Value) (o : Nat) : List Value → Array Value
  | [] => arr
  | v :: r => putArr (arr.setIfInBounds o v) (o + 1) r

theorem putArr_size : ∀ (vs : List Value) (arr : Array Value) (o : Nat), (putArr arr o vs).size = arr.size
  | [], _, _ => rfl
  | v :: r, arr, o => by simp [putArr, putArr_size r]

theorem putArr_get : ∀ (vs : List Value) (arr : Array Value) (o i : Nat), (putArr arr o vs)[i]? = if o ≤ i ∧ i < o + vs.length ∧ i < arr.size then vs[i - o]? else arr[i]?
  | [], arr, o, i => by
    have : ¬ (o ≤ i ∧ i < o + ([] : List Value).length ∧ i < arr.size) := by simp; omega
    rw [if_neg this]; rfl
  | v :: r, arr, o, i => by
    rw [putArr, putArr_get r]
    simp only [Array.size_setIfInBounds, List.length_cons]
    by_cases h1 : i = o
    · subst h1
      rw [if_neg (by omega), Array.getElem?_setIfInBounds]
      by_cases h2 : i < arr.size
      · rw [if_pos rfl, if_pos h2, if_pos (by omega), Nat.sub_self]; rfl
      · rw [if_pos rfl, if_neg h2, if_neg (by omega)]; exact (Array.getElem?_eq_none (by omega)).symm
    · have e0 : (arr.setIfInBounds o v)[i]? = arr[i]? := by rw [Array.getElem?_setIfInBounds, if_neg (fun e => h1 e.symm)]
      rw [e0]
      by_cases h2 : o + 1 ≤ i ∧ i < o + 1 + r.length ∧ i < arr.size
      · rw [if_pos h2, if_pos (by omega), show i - o = (i - (o + 1)) + 1 by omega]; rfl
      · rw [if_neg h2, if_neg (by omega)]

theorem setCell_other {w : World} {g b o : Nat} {v : Value} (h : g ≠ b) : (w.setCell ⟨b, o, none⟩ v).heap[g]? = w.heap[g]? := by
  simp only [World.setCell, Array.getElem?_modify]
  rw [if_neg (fun e => h e.symm)]

theorem setCell_here {w : World} {b o : Nat} {v : Value} {arr : Array Value} {e : TypeId} {fz : Nat × Nat} (h : w.heap[b]? = some (.cells arr e fz)) : (w.setCell ⟨b, o, none⟩ v).heap[b]? = some (.cells (arr.setIfInBounds o v) e fz) := by
  simp only [World.setCell, Array.getElem?_modify, h]
  simp

theorem setCells_other {g b : Nat} (h : g ≠ b) : ∀ (vs : List Value) (o : Nat) (w : World), (w.setCells b o vs).heap[g]? = w.heap[g]?
  | [], _, _ => rfl
  | v :: r, o, w => by rw [World.setCells, setCells_other h r, setCell_other h]

theorem setCells_here {b : Nat} {e : TypeId} {fz : Nat × Nat} : ∀ (vs : List Value) (o : Nat) (w : World) (arr : Array Value), w.heap[b]? = some (.cells arr e fz) → (w.setCells b o vs).heap[b]? = some (.cells (putArr arr o vs) e fz)
  | [], _, _, _, h => h
  | v :: r, o, w, arr, h => by rw [World.setCells]; exact setCells_here r (o + 1) _ _ (setCell_here h)

theorem setCells_same {b : Nat} : ∀ (vs : List Value) (o : Nat) (w : World), (w.setCells b o vs).os = w.os ∧ (w.setCells b o vs).tape = w.tape ∧ (w.setCells b o vs).output = w.output ∧ (w.setCells b o vs).heap.size = w.heap.size
  | [], _, _ => ⟨rfl, rfl, rfl, rfl⟩
  | v :: r, o, w => by
    obtain ⟨h1, h2, h3, h4⟩ := setCells_same r (o + 1) (w.setCell ⟨b, o, none⟩ v)
    rw [World.setCells]
    exact ⟨h1, h2, h3, by rw [h4]; simp [World.setCell]⟩

theorem cell_at {w : World} {g o : Nat} {arr : Array Value} {e : TypeId} {fz : Nat × Nat} (h : w.heap[g]? = some (.cells arr e fz)) : w.cell? ⟨g, o, none⟩ = arr[o]? := by simp [World.cell?, h]

theorem frozen_at {w : World} {g o : Nat} {arr : Array Value} {e : TypeId} {fz : Nat × Nat} (h : w.heap[g]? = some (.cells arr e fz)) (hf : fz.2 = 0 ∨ arr.size ≤ fz.1) (ho : o < arr.size) : w.frozen? ⟨g, o, none⟩ = false := by
  obtain ⟨lo, hi⟩ := fz
  simp only [World.frozen?, h, Bool.and_eq_false_iff, decide_eq_false_iff_not]
  simp at hf
  rcases hf with hf | hf
  · right; omega
  · left; omega

theorem cell_congr {w w' : World} {g o : Nat} (h : w'.heap[g]? = w.heap[g]?) : w'.cell? ⟨g, o, none⟩ = w.cell? ⟨g, o, none⟩ := by simp [World.cell?, h]

theorem Fr.to {F : Nat → Prop} {w0 w w' : World} (h : Fr F w0 w) (hos : w'.os = w.os) (ht : w'.tape = w.tape) (ho : w'.output = w.output) (hs : w.heap.size ≤ w'.heap.size)
    (hk : ∀ g, g < w0.heap.size → ¬ F g → w'.heap[g]? = w.heap[g]?) : Fr F w0 w' :=
  ⟨hos.trans h.os, ht.trans h.tape, ho.trans h.output, Nat.le_trans h.size hs, fun g hg hF => (hk g hg hF).trans (h.keep g hg hF)⟩

theorem WI.to {Own Own' : Owner} {M : Mem} {w w' : World} (h : WI Own M w) (hO : ∀ g ℓ, Own' g = some ℓ → (∃ q, Own g = some q) ∨ w.heap.size ≤ g ∧ g < w'.heap.size) (hs : w.heap.size ≤ w'.heap.size)
    (hk : ∀ g, g < w.heap.size → Own g = none → w'.heap[g]? = w.heap[g]?) : WI Own' M w' := by
  have lt : ∀ g o c, M g o = some c → g < w.heap.size := fun g o c hc => by
    have := (h.agree g o c hc).1
    simp only [World.cell?] at this
    rcases Nat.lt_or_ge g w.heap.size with hl | hl
    · exact hl
    · rw [Array.getElem?_eq_none hl] at this; cases this
  refine ⟨fun g o c hc => ?_, fun g ℓ hg o => ?_, fun g ℓ hg => ?_⟩
  · obtain ⟨h1, h2⟩ := h.agree g o c hc
    refine ⟨?_, h2⟩
    rw [cell_congr (hk g (lt g o c hc) ?_)]
    · exact h1
    · cases hg : Own g with
      | none => rfl
      | some q => rw [h.free g q hg o] at hc; cases hc
  · rcases hO g ℓ hg with ⟨q, hq⟩ | ⟨hge, _⟩
    · exact h.free g q hq o
    · cases hc : M g o with
      | none => rfl
      | some c => have := lt g o c hc; omega
  · rcases hO g ℓ hg with ⟨q, hq⟩ | ⟨_, hlt⟩
    · exact Nat.lt_of_lt_of_le (h.lt g q hq) hs
    · exact hlt

section
variable {B : Base} {s : S} {tm : Array Value} {w : World} {Own : Owner} {ρ : List Nat} {M : Mem}

/-- The state behind a step: what is not touched stands. -/
theorem RS.turn (h : RS B s tm w Own ρ M) {w' : World} {Own' : Owner} {ρ' : List Nat} {M' : Mem} {s' : S} (hρ : Ext ρ ρ') (hM : MLe M M') (wi : WI Own' M' w') (fr : Fr B.F B.w w')
    (own0 : ∀ g ℓ, Own' g = some ℓ → B.F g ∨ B.w.heap.size ≤ g) (mnew : ∀ g o c, M' g o = some c → B.M g o = some c ∨ B.F g ∨ B.w.heap.size ≤ g) (hlen : s'.env.length = s.env.length) (hhl : ρ'.length = s'.heap.length)
    (henv : ∀ (t : Nat) (a : AVal) (v : Value), s'.env[t]? = some a → tm[t]? = some v → (s.env[t]? = some a ∧ ∀ g p, Own g = some (.slot t p) → Own' g = some (.slot t p) ∧ w'.heap[g]? = w.heap[g]?) ∨ (a.ref? = none ∧ Hold Own' w' ρ' M' (.slot t) a v))
    (hun : ∀ (u : Nat) (b : AVal), s.env[u]? = some b → b.uniq = true → ∃ b', s'.env[u]? = some b' ∧ b'.uniq = true)
    (hblk : ∀ (b : Nat) (cs : List AVal), s'.heap[b]? = some cs → cs ≠ [] → (s.heap[b]? = some cs ∧ ∀ g ℓ, (ℓ = .var b ∨ ∃ o, ℓ = .cell b o) → Own g = some ℓ → Own' g = some ℓ ∧ w'.heap[g]? = w.heap[g]?) ∨ BlkAt Own' w' ρ' M' b cs) :
    RS B s' tm w' Own' ρ' M' where
  wi := wi
  fr := fr
  mle := h.mle.trans hM
  glob := h.glob.trans hM
  ext := fun b g hb => hρ b g (h.ext b g hb)
  own0 := own0
  mnew := mnew
  len := by rw [hlen]; exact h.len
  env t a v ha hv := by
    rcases henv t a v ha hv with ⟨ha', hk⟩ | ⟨hr, hH⟩
    · exact (h.env t a v ha' hv).move hρ hM hk (fun u b _ hb hu => let ⟨b', h1, h2⟩ := hun u b hb hu; ⟨b', h1, h2, rfl⟩)
    · rw [SlotOK_plain hr]; exact hH
  hlen := hhl
  heap b cs hb hne := by
    rcases hblk b cs hb hne with ⟨hb', hk⟩ | hB
    · exact (h.heap b cs hb' hne).move hρ hM (fun g hg => hk g _ (.inl rfl) hg) (fun g o hg => hk g _ (.inr ⟨o, rfl⟩) hg)
    · exact hB

noncomputable def Loc.home : Loc → Bool
  | .fly _ _ => false
  | _ => true

/-- A world turned away from what slots and blocks hold. -/
theorem RS.away (h : RS B s tm w Own ρ M) {w' : World} {Own' : Owner} (wi : WI Own' M w') (fr : Fr B.F B.w w')
    (own0 : ∀ g ℓ, Own' g = some ℓ → B.F g ∨ B.w.heap.size ≤ g)
    (hk : ∀ g ℓ, ℓ.home = true → Own g = some ℓ → Own' g = some ℓ ∧ w'.heap[g]? = w.heap[g]?) : RS B s tm w' Own' ρ M :=
  h.turn (Ext.refl _) (MLe.refl _) wi fr own0 h.mnew rfl h.hlen (fun t a v ha hv => .inl ⟨ha, fun g p hg => hk g _ rfl hg⟩) (fun u b hb hu => ⟨b, hb, hu⟩)
    (fun b cs hb _ => .inl ⟨hb, fun g ℓ hl hg => hk g ℓ (by rcases hl with rfl | ⟨o, rfl⟩ <;> rfl) hg⟩)

noncomputable def addO (Own : Owner) (g : Nat) (ℓ : Loc) : Owner := fun x => if x = g then some ℓ else Own x

theorem addO_here {g : Nat} {ℓ : Loc} : addO Own g ℓ g = some ℓ := by simp [addO]
theorem addO_other {g x : Nat} {ℓ : Loc} (h : x ≠ g) : addO Own g ℓ x = Own x := by simp [addO, h]

/-- A new block. -/
theorem RS.push (h : RS B s tm w Own ρ M) {w' : World} {obj : Obj} (hh : w'.heap = w.heap.push obj) (hos : w'.os = w.os) (ht : w'.tape = w.tape) (ho : w'.output = w.output) (ℓ : Loc) :
    RS B s tm w' (addO Own w.heap.size ℓ) ρ M ∧ w'.heap[w.heap.size]? = some obj ∧ ∀ g, g ≠ w.heap.size → w'.heap[g]? = w.heap[g]? := by
  have hsz : w'.heap.size = w.heap.size + 1 := by rw [hh, Array.size_push]
  have hold : ∀ g, g ≠ w.heap.size → w'.heap[g]? = w.heap[g]? := fun g hg => by
    rw [hh, Array.getElem?_push, if_neg hg]
  refine ⟨h.away ?_ (h.fr.to hos ht ho (by omega) fun g hg _ => hold g (by have := h.fr.size; omega)) ?_ ?_, by rw [hh, Array.getElem?_push, if_pos rfl], hold⟩
  · refine h.wi.to (fun g q hg => ?_) (by omega) (fun g hg _ => hold g (by omega))
    by_cases e : g = w.heap.size
    · exact .inr ⟨by omega, by omega⟩
    · rw [addO_other e] at hg; exact .inl ⟨q, hg⟩
  · intro g q hg
    by_cases e : g = w.heap.size
    · right; rw [e]; exact h.fr.size
    · rw [addO_other e] at hg; exact h.own0 g q hg
  · intro g q _ hg
    have e : g ≠ w.heap.size := by have := h.wi.lt g q hg; omega
    exact ⟨by rw [addO_other e]; exact hg, hold g e⟩

/-- A block joined to the variables. -/
theorem RS.addBlk (h : RS B s tm w Own ρ M) {g : Nat} {cs : List AVal} (hb : BlkAt Own w (ρ ++ [g]) M s.heap.length cs) : RS B { s with heap := s.heap ++ [cs] } tm w Own (ρ ++ [g]) M :=
  h.turn (Ext.append _ _) (MLe.refl _) h.wi h.fr h.own0 h.mnew rfl (by simp [h.hlen]) (fun t a v ha hv => .inl ⟨ha, fun g p hg => ⟨hg, rfl⟩⟩) (fun u b hb hu => ⟨b, hb, hu⟩)
    (fun b cs' hb' _ => by
      dsimp only at hb'
      rw [List.getElem?_append] at hb'
      split at hb'
      · exact .inl ⟨hb', fun g ℓ _ hg => ⟨hg, rfl⟩⟩
      · right
        rename_i hlt
        have e : b = s.heap.length := by
          have := (List.getElem?_eq_some_iff.1 hb').1
          simp at this; omega
        subst e
        simp at hb'
        subst hb'
        exact hb)

theorem Hold_flat {ℓ ℓ' : List Nat → Loc} {b : AVal} {u : Value} (h1 : u.oneCell' = true) (hl : ℓ [] = ℓ' []) (h : Hold Own w ρ M ℓ b u) : Hold Own w ρ M ℓ' b u := by
  cases b with
  | agg cs => simp only [Hold] at h; obtain ⟨vs, rfl, _⟩ := h; cases h1
  | tup cs => simp only [Hold] at h; obtain ⟨vs, rfl, _⟩ := h; cases h1
  | ints u k l => cases u <;> simp only [Hold, AVal.uniq] at h ⊢ <;> first | exact h | (rw [← hl]; exact h)
  | strs u l => cases u <;> simp only [Hold, AVal.uniq] at h ⊢ <;> first | exact h | (rw [← hl]; exact h)
  | strs2 u l => cases u <;> simp only [Hold, AVal.uniq] at h ⊢ <;> first | exact h | (rw [← hl]; exact h)
  | rows u z l => cases u <;> simp only [Hold, AVal.uniq] at h ⊢ <;> first | exact h | (rw [← hl]; exact h)
  | _ => simpa only [Hold, AVal.uniq] using h

theorem HoldL_iff {ℓ : List Nat → Loc} : ∀ (as : List AVal) (vs : List Value) (i : Nat), HoldL Own w ρ M ℓ i as vs ↔ as.length = vs.length ∧ ∀ j a v, as[j]? = some a → vs[j]? = some v → Hold Own w ρ M (fun p => ℓ ((i + j) :: p)) a v
  | [], [], i => by simp [HoldL]
  | a :: as, v :: vs, i => by
    simp only [HoldL, HoldL_iff as vs (i + 1), List.length_cons]
    constructor
    · rintro ⟨h0, hl, h⟩
      refine ⟨by rw [hl], fun j b u hb hu => ?_⟩
      cases j with
      | zero => simp at hb hu; subst hb hu; exact h0
      | succ j => simp at hb hu; have := h j b u hb hu; rwa [show i + 1 + j = i + (j + 1) by omega] at this
    · rintro ⟨hl, h⟩
      refine ⟨h 0 a v rfl rfl, by omega, fun j b u hb hu => ?_⟩
      have := h (j + 1) b u (by simpa using hb) (by simpa using hu)
      rwa [show i + (j + 1) = i + 1 + j by omega] at this
  | [], _ :: _, i => by simp [HoldL]
  | _ :: _, [], i => by simp [HoldL]

noncomputable def AVal.isAgg : AVal → Bool
  | .agg _ => true
  | _ => false

/-- Where the cells of a value under way are owned. -/
noncomputable def AVal.at (a : AVal) (o : Nat) : List Nat := match a with | .agg _ => [o] | _ => []

theorem V_one {a : AVal} {v : Value} (hst : a.st = true) (hna : a.isAgg = false) (h : V ρ M a v) : v.oneCell' = true := by
  cases a <;> simp only [AVal.st, AVal.isAgg, Bool.false_eq_true, reduceCtorEq] at hst hna <;> simp only [V] at h
  · subst h; rfl
  · subst h; rfl
  · subst h; rfl
  · subst h; rfl
  · obtain ⟨g, _, rfl⟩ := h; rfl
  · obtain ⟨g, o, rfl, _⟩ := h; rfl
  · obtain ⟨_, base, cap, rfl, _⟩ := h; rfl
  · obtain ⟨_, base, cap, rfl, _⟩ := h; rfl
  · obtain ⟨_, base, cap, rfl, _⟩ := h; rfl
  · obtain ⟨_, _, base, cap, rfl, _⟩ := h; rfl
  · obtain ⟨base, cap, rfl⟩ := h; rfl
  · obtain ⟨vs, rfl, _⟩ := h; rfl
  · subst h; rfl
  · subst h; rfl

theorem Hold_one {ℓ : List Nat → Loc} {a : AVal} {v : Value} (hst : a.st = true) (hna : a.isAgg = false) (h : Hold Own w ρ M ℓ a v) : v.oneCell' = true := by
  cases hu : a.uniq with
  | true =>
    have := Hold_uniq hu h
    obtain ⟨_, base, cap, rfl, _⟩ := this; rfl
  | false =>
    have : V ρ M a v := by cases a <;> simp_all [Hold, AVal.uniq, AVal.st, AVal.isAgg]
    exact V_one hst hna this

theorem cells_one {v : Value} (h : v.oneCell' = true) : v.cells = #[v] := by cases v <;> simp_all [Value.cells, Value.oneCell']

/-- What a storable value's cells say. -/
theorem Hold_cells {ℓ : List Nat → Loc} {a : AVal} {v : Value} (hst : a.st = true) (h : Hold Own w ρ M ℓ a v) : v.cells.size = a.cells.length ∧ (∀ u ∈ v.cells.toList, u.oneCell' = true) ∧
    ∀ (o : Nat) (b : AVal) (u : Value), a.cells[o]? = some b → v.cells[o]? = some u → u.oneCell' = true ∧ Hold Own w ρ M (fun _ => ℓ (a.at o)) b u := by
  cases hna : a.isAgg with
  | true =>
    cases a <;> simp only [AVal.isAgg, Bool.false_eq_true, reduceCtorEq] at hna
    rename_i cs
    simp only [Hold] at h
    obtain ⟨vs, rfl, hl, h1⟩ := h
    rw [HoldL_iff] at hl
    refine ⟨by simp [Value.cells, AVal.cells, hl.1], by simpa [Value.cells] using h1, fun o b u hb hu => ?_⟩
    simp only [AVal.cells] at hb
    simp only [Value.cells, List.getElem?_toArray] at hu
    have hone := h1 u (List.mem_of_getElem? hu)
    exact ⟨hone, Hold_flat hone (by simp [AVal.at]) (hl.2 o b u hb hu)⟩
  | false =>
    have h1 := Hold_one hst hna h
    have ec : a.cells = [a] := by cases a <;> simp_all [AVal.cells, AVal.isAgg]
    rw [cells_one h1, ec]
    refine ⟨rfl, by simpa using h1, fun o b u hb hu => ?_⟩
    cases o with
    | zero =>
      simp at hb hu; subst hb hu
      exact ⟨h1, Hold_flat h1 (by cases a <;> simp_all [AVal.at, AVal.isAgg]) h⟩
    | succ o => simp at hb

noncomputable def flyCell (b off : Nat) : Loc → Loc
  | .fly 0 [] => .cell b off
  | .fly 0 (i :: _) => .cell b (off + i)
  | q => q

theorem flyCell_at (a : AVal) (b off o : Nat) (ho : ∀ x, a.cells[o]? = some x → True) (h : a.isAgg = true ∨ o = 0) : flyCell b off (.fly 0 (a.at o)) = .cell b (off + o) := by
  cases a <;> simp_all [AVal.at, AVal.isAgg, flyCell]

/-- A value under way laid into a new block. -/
theorem RS.newBlk (h : RS B s tm w Own ρ M) {a : AVal} {v : Value} (hst : a.st = true) (hf : Hold Own w ρ M (.fly 0) a v) {w' : World} {e : TypeId} (hh : w'.heap = w.heap.push (.cells v.cells e (0, 0))) (hos : w'.os = w.os) (ht : w'.tape = w.tape) (ho : w'.output = w.output) :
    ∃ Own', RS B { s with heap := s.heap ++ [a.cells] } tm w' Own' (ρ ++ [w.heap.size]) M := by
  obtain ⟨hp, hg0, hgo⟩ := h.push hh hos ht ho (.var s.heap.length)
  obtain ⟨hsz, hone, hc⟩ := Hold_cells hst hf
  have hm := hp.mv (flyCell s.heap.length 0) (fun _ _ => rfl) (fun _ => rfl) (fun _ _ => rfl)
  refine ⟨_, hm.addBlk ⟨w.heap.size, v.cells, e, ?_, ?_, hg0, hsz, fun o b u hb hu => ?_⟩⟩
  · rw [← h.hlen, List.getElem?_append_right (by omega)]; simp
  · simp [Owner.mv, addO_here, flyCell]
  · obtain ⟨h1, hH⟩ := hc o b u hb hu
    refine ⟨h1, Hold_move (Ext.append _ _) (MLe.refl _) b u _ _ (fun g p hg => ?_) hH⟩
    have e : g ≠ w.heap.size := by have := h.wi.lt g _ hg; omega
    refine ⟨?_, hgo g e⟩
    have : flyCell s.heap.length 0 (.fly 0 (a.at o)) = .cell s.heap.length o := by
      rw [flyCell_at a _ _ _ (fun _ _ => trivial), Nat.zero_add]
      cases hag : a.isAgg with
      | true => exact .inl rfl
      | false =>
        right
        have ec : a.cells = [a] := by cases a <;> simp_all [AVal.cells, AVal.isAgg]
        rw [ec] at hb
        cases o with
        | zero => rfl
        | succ o => simp at hb
    simp only [Owner.mv, addO_other e, hg, Option.map_some, this]

end
end Go.Proofs.YtognccpmaljamaaGreatDoor.Sa

/- AS, part S8: what is loaded and stored (the state's side). -/
namespace Go.Proofs.YtognccpmaljamaaGreatDoor.Sa
open Go
variable [GlobMem]

theorem splice_get (vs cs : List AVal) (o i : Nat) (h : o + vs.length ≤ cs.length) : (splice o vs cs)[i]? = if o ≤ i ∧ i < o + vs.length then vs[i - o]? else cs[i]? := by
  rw [splice_eq]
  rw [List.append_assoc, List.getElem?_append]
  have ht : (cs.take o).length = o := by rw [List.length_take]; omega
  rw [ht]
  split
  · rw [if_neg (by omega), List.getElem?_take, if_pos (by assumption)]
  · rw [List.getElem?_append]
    split
    · rw [if_pos (by omega)]
    · rw [if_neg (by omega), List.getElem?_drop]
      congr 1; omega

theorem splice_length (vs cs : List AVal) (o : Nat) (h : o + vs.length ≤ cs.length) : (splice o vs cs).length = cs.length := by
  rw [splice_eq]
  simp; omega

/-- Where the cells of a block are owned. -/
noncomputable def cellL (b o : Nat) : List Nat → Loc
  | [] => .cell b o
  | i :: _ => .cell b (o + i)

/-- What lies at o, taken together: cells us. -/
noncomputable def valOf (d : TD) (us : List Value) : Value := match d.agg? with | true => .agg us.toArray | false => us.headD Go.undef

section
variable {P : Program} {B : Base} {s : S} {tm : Array Value} {w : World} {Own : Owner} {ρ : List Nat} {M : Mem}

theorem run_loadAt_cells {t : TypeId} {d : TD} (hT : TyOK P t d) (g o : Nat) (us : List Value) (hl : us.length = d.size) (hc : ∀ j u, us[j]? = some u → w.cell? ⟨g, o + j, none⟩ = some u) :
    (Instr.loadAt t (.pointer (some ⟨g, o, none⟩))).run P w = .ok (valOf d us) w := by
  have hA := hT.agg w
  have hS := hT.sizeOf w
  simp only [Instr.loadAt, Instr.sureAddr, Sem.run_bind, Sem.run_pure, Result.andThen_ok, loadVar, hA]
  unfold valOf
  cases hd : d.agg? with
  | true =>
    have hlc : (loadCells ⟨g, o, none⟩ us.length).run P w = .ok us.toArray w := run_loadCells_list (P := P) w ⟨g, o, none⟩ us (fun j v hv => by rw [Addr.add_mid]; exact hc j v hv)
    simp [hS, ← hl, hlc]
  | false =>
    have h1 : d.size = 1 := by
      obtain ⟨i, z, _, _, _, _, _, hz⟩ := hT.info
      rw [hd] at hz; exact hz.1
    cases us with
    | nil => simp at hl; omega
    | cons u us =>
      have := hc 0 u rfl
      simp only [Nat.add_zero] at this
      simp [run_load, this]

theorem run_storeAt_cells {t : TypeId} {d : TD} (hT : TyOK P t d) (g o : Nat) (v : Value) (hl : v.cells.size = d.size) (h1 : ∀ u ∈ v.cells.toList, u.oneCell' = true) {arr : Array Value} {e : TypeId} {fz : Nat × Nat} (hg : w.heap[g]? = some (.cells arr e fz))
    (hf : fz.2 = 0 ∨ arr.size ≤ fz.1) (hin : o + d.size ≤ arr.size) : (Instr.storeAt t (.pointer (some ⟨g, o, none⟩)) v).run P w = .ok () (w.setCells g o v.cells.toList) := by
  have hS := hT.sizeOf w
  have := run_storeCells_cells (P := P) g o v.cells.toList 0 w (fun j hj => by
    rw [cell_at hg, Nat.add_zero, Array.getElem?_eq_getElem (by simp at hj; omega)]; rfl) (fun j hj => frozen_at hg hf (by simp at hj; omega)) h1
  simp only [Nat.add_zero] at this
  simp [Instr.storeAt, Instr.sureAddr, storeVar, hS, hl, this]

/-- What a block's cells at o come to. -/
theorem peek {cs : List AVal} {b o : Nat} {d : TD} {v : AVal} (hB : BlkAt Own w ρ M b cs) (hl : loadC d cs o = some v) (h1 : d.agg? = false → d.size = 1) :
    ∃ g us, ρ[b]? = some g ∧ us.length = d.size ∧ (∀ j u, us[j]? = some u → w.cell? ⟨g, o + j, none⟩ = some u) ∧ Hold Own w ρ M (cellL b o) v (valOf d us) ∧ o + v.cells.length ≤ cs.length ∧
      (v.isAgg = true → v.cells.length = d.size) ∧ (v.isAgg = false → v.cells.length = 1 ∧ (valOf d us).oneCell' = true) ∧ ∀ j x, v.cells[j]? = some x → cs[o + j]? = some x := by
  obtain ⟨g, arr, e, hg, ho, hw, hsz, hc⟩ := hB
  unfold loadC at hl
  cases hd : d.agg? with
  | true =>
    simp only [hd] at hl
    simp only [Option.map_eq_some_iff] at hl
    obtain ⟨l, hl, rfl⟩ := hl
    unfold sub at hl
    split at hl
    · rename_i hle
      have hle := Nat.le_of_ble_eq_true hle
      cases hl
      have hlen : ((cs.drop o).take d.size).length = d.size := by simp; omega
      have hget : ∀ j, j < d.size → ((cs.drop o).take d.size)[j]? = cs[o + j]? := fun j hj => by rw [List.getElem?_take, if_pos hj, List.getElem?_drop]
      have hgetv : ∀ j, j < d.size → ((arr.toList.drop o).take d.size)[j]? = arr[o + j]? := fun j hj => by rw [List.getElem?_take, if_pos hj, List.getElem?_drop, Array.getElem?_toList]
      have hlv : ((arr.toList.drop o).take d.size).length = d.size := by simp; omega
      refine ⟨g, (arr.toList.drop o).take d.size, hg, hlv, fun j u hu => ?_, ?_, by simp only [AVal.cells]; omega, fun _ => (by simp only [AVal.cells]; exact hlen), fun h => (by cases h), fun j x hx => ?_⟩
      · have hj : j < d.size := by have := (List.getElem?_eq_some_iff.1 hu).1; omega
        rw [cell_at hw, ← hgetv j hj]; exact hu
      · simp only [valOf, hd, Hold]
        refine ⟨_, rfl, (HoldL_iff _ _ _).2 ⟨by omega, fun j a u ha hu => ?_⟩, fun u hu => ?_⟩
        · have hj : j < d.size := by have := (List.getElem?_eq_some_iff.1 hu).1; omega
          rw [hget j hj] at ha
          rw [hgetv j hj] at hu
          obtain ⟨k1, k2⟩ := hc _ a u ha hu
          exact Hold_flat k1 (by simp [cellL]) k2
        · obtain ⟨j, hu⟩ := List.getElem?_of_mem hu
          have hj : j < d.size := by have := (List.getElem?_eq_some_iff.1 hu).1; omega
          rw [hgetv j hj] at hu
          exact (hc _ cs[o + j] u (List.getElem?_eq_getElem (by omega)) hu).1
      · simp only [AVal.cells] at hx
        have hj : j < d.size := by have := (List.getElem?_eq_some_iff.1 hx).1; omega
        rw [hget j hj] at hx; exact hx
    · cases hl
  | false =>
    simp only [hd] at hl
    have ho' : o < cs.length := (List.getElem?_eq_some_iff.1 hl).1
    have hu : arr[o]? = some arr[o] := Array.getElem?_eq_getElem (by omega)
    obtain ⟨k1, k2⟩ := hc o v _ hl hu
    have hna : v.isAgg = false := by
      cases v <;> try rfl
      simp only [Hold] at k2
      obtain ⟨vs, e, _⟩ := k2
      rw [e] at k1; cases k1
    have ec : v.cells = [v] := by cases v <;> simp_all [AVal.cells, AVal.isAgg]
    refine ⟨g, [arr[o]], hg, by simp [h1 hd], fun j u hj => ?_, ?_, by rw [ec]; simp; omega, fun h => (by rw [hna] at h; cases h), fun h => ?_, fun j x hx => ?_⟩
    · cases j with
      | zero => simp at hj; subst hj; rw [cell_at hw]; exact hu
      | succ j => simp at hj
    · simp only [valOf, hd]
      exact Hold_flat k1 (by simp [cellL]) k2
    · rw [ec]; simp only [valOf, hd]; exact ⟨rfl, k1⟩
    · rw [ec] at hx
      cases j with
      | zero => simp at hx; subst hx; exact hl
      | succ j => simp at hx

/-! ### taken out of a block -/
noncomputable def cellTo (b o n : Nat) (agg : Bool) : Loc → Loc
  | .cell b' o' => if b' = b ∧ o ≤ o' ∧ o' < o + n then .fly 0 (match agg with | true => [o' - o] | false => []) else .cell b' o'
  | q => q

theorem BlkAt.cs {b : Nat} {cs : List AVal} (h : BlkAt Own w ρ M b cs) : ∃ g, ρ[b]? = some g ∧ Own g = some (.var b) := let ⟨g, _, _, h1, h2, _⟩ := h; ⟨g, h1, h2⟩

/-- The cells at o forgotten, what they held under way. -/
theorem RS.getBlk' (h : RS B s tm w Own ρ M) {b o : Nat} {cs : List AVal} (hb : s.heap[b]? = some cs) (hne : cs ≠ []) {v : AVal} {u : Value} (hH : Hold Own w ρ M (cellL b o) v u) (hin : o + v.cells.length ≤ cs.length) (hag : v.isAgg = false → v.cells.length = 1 ∧ u.oneCell' = true) :
    ∃ Own', RS B { s with heap := s.heap.set b (splice o (List.replicate v.cells.length .undef) cs) } tm w Own' ρ M ∧ Hold Own' w ρ M (.fly 0) v u ∧ ∀ g k p, Own g = some (.fly k p) → Own' g = some (.fly k p) := by
  have hf : ∀ t p, cellTo b o v.cells.length v.isAgg (.slot t p) = .slot t p := fun _ _ => rfl
  have hB := h.heap b cs hb hne
  obtain ⟨G, arr, e, h1, h2, h3, h4, h5⟩ := hB
  refine ⟨Own.mv (cellTo b o v.cells.length v.isAgg), h.turn (Ext.refl _) (MLe.refl _) h.wi.mv h.fr (fun g ℓ hg => let ⟨q, hq, _⟩ := Owner.mv_some hg; h.own0 g q hq) h.mnew rfl (by simp [h.hlen])
    (fun t a v ha hv => .inl ⟨ha, fun g p hg => ⟨by simp [Owner.mv, hg, cellTo], rfl⟩⟩) (fun u b hb hu => ⟨b, hb, hu⟩) (fun b' cs' hb' _ => ?_), ?_, fun g k p hg => by simp [Owner.mv, hg, cellTo]⟩
  · dsimp only at hb'
    rw [List.getElem?_set] at hb'
    split at hb'
    · rename_i hbb
      subst hbb
      right
      rw [if_pos (List.getElem?_eq_some_iff.1 hb).1] at hb'
      cases hb'
      have hrl : o + (List.replicate v.cells.length AVal.undef).length ≤ cs.length := by simpa using hin
      refine ⟨G, arr, e, h1, by simp [Owner.mv, h2, cellTo], h3, by rw [splice_length _ _ _ hrl]; exact h4, fun o' a u' ha hu => ?_⟩
      rw [splice_get _ _ _ _ hrl] at ha
      split at ha
      · rename_i hr
        have ea : a = .undef := by rw [List.getElem?_replicate] at ha; split at ha <;> simp_all
        subst ea
        have hlt : o' < cs.length := by simp at hr; omega
        exact ⟨(h5 o' _ u' (List.getElem?_eq_getElem hlt) hu).1, by simp [Hold, AVal.uniq, V]⟩
      · rename_i hr
        obtain ⟨k1, k2⟩ := h5 o' a u' ha hu
        refine ⟨k1, Hold_move (Ext.refl _) (MLe.refl _) a u' _ _ (fun g p hg => ⟨?_, rfl⟩) k2⟩
        simp at hr
        have : ¬ (o ≤ o' ∧ o' < o + v.cells.length) := by omega
        simp [Owner.mv, hg, cellTo, this]
    · rename_i hbb
      left
      refine ⟨hb', fun g ℓ hl hg => ⟨?_, rfl⟩⟩
      have hbb' : b' ≠ b := fun e => hbb e.symm
      rcases hl with rfl | ⟨o', rfl⟩ <;> simp [Owner.mv, hg, cellTo, hbb']
  · cases hg : v.isAgg with
    | true =>
      cases v <;> simp only [AVal.isAgg, Bool.false_eq_true, reduceCtorEq] at hg
      rename_i l
      simp only [Hold] at hH ⊢
      obtain ⟨vs, hv, hl, h1'⟩ := hH
      refine ⟨vs, hv, ?_, h1'⟩
      rw [HoldL_iff] at hl ⊢
      refine ⟨hl.1, fun j a x ha hx => ?_⟩
      have hone := h1' x (List.mem_of_getElem? hx)
      have hj : j < l.length := (List.getElem?_eq_some_iff.1 ha).1
      refine Hold_flat (ℓ := fun _ => .fly 0 [j]) hone (by simp) (Hold_move (Ext.refl _) (MLe.refl _) a x _ _ (fun g p hg' => ⟨?_, rfl⟩) (Hold_flat (ℓ' := fun _ => .cell b (o + j)) hone (by simp [cellL]) (hl.2 j a x ha hx)))
      simp [Owner.mv, hg', cellTo, AVal.cells, AVal.isAgg, hj]
    | false =>
      obtain ⟨hvl, hone⟩ := hag hg
      have hl0 : ∀ g, Own g = some (Loc.cell b o) → Own.mv (cellTo b o v.cells.length false) g = some (Loc.fly 0 []) ∧ w.heap[g]? = w.heap[g]? := fun g hg' => ⟨by
        simp [Owner.mv, hg', cellTo, hvl], rfl⟩
      cases hu : v.uniq with
      | true =>
        have hU := Hold_uniq hu hH
        have := hU.move (ℓ' := .fly 0 []) (Ext.refl _) (MLe.refl _) (fun g hg' => hl0 g hg')
        cases v <;> simp_all [Hold, AVal.uniq]
      | false =>
        cases v with
        | agg l => cases hg
        | tup l => simp only [Hold] at hH; obtain ⟨vs, e, _⟩ := hH; rw [e] at hone; cases hone
        | ints u k l => simp only [AVal.uniq] at hu; subst hu; simpa only [Hold, AVal.uniq] using hH
        | strs u l => simp only [AVal.uniq] at hu; subst hu; simpa only [Hold, AVal.uniq] using hH
        | strs2 u l => simp only [AVal.uniq] at hu; subst hu; simpa only [Hold, AVal.uniq] using hH
        | rows u z l => simp only [AVal.uniq] at hu; subst hu; simpa only [Hold, AVal.uniq] using hH
        | _ => simpa only [Hold, AVal.uniq] using hH

theorem RS.getBlk (h : RS B s tm w Own ρ M) {b o : Nat} {cs : List AVal} (hb : s.heap[b]? = some cs) (hne : cs ≠ []) {v : AVal} {u : Value} (hH : Hold Own w ρ M (cellL b o) v u) (hin : o + v.cells.length ≤ cs.length) (hag : v.isAgg = false → v.cells.length = 1 ∧ u.oneCell' = true) :
    ∃ Own', RS B { s with heap := s.heap.set b (splice o (List.replicate v.cells.length .undef) cs) } tm w Own' ρ M ∧ Hold Own' w ρ M (.fly 0) v u :=
  let ⟨O, h1, h2, _⟩ := h.getBlk' hb hne hH hin hag
  ⟨O, h1, h2⟩

/-! ### laid into a block -/
noncomputable def cellIn (b o n : Nat) : Loc → Loc
  | .cell b' o' => if b' = b ∧ o ≤ o' ∧ o' < o + n then .fly 7 [] else .cell b' o'
  | .fly 0 [] => .cell b o
  | .fly 0 (i :: _) => .cell b (o + i)
  | q => q

theorem cells_at {a : AVal} {x : AVal} {j : Nat} (h : a.cells[j]? = some x) (b o n : Nat) : cellIn b o n (.fly 0 (a.at j)) = .cell b (o + j) := by
  cases hag : a.isAgg with
  | true => cases a <;> simp_all [AVal.isAgg, AVal.at, cellIn]
  | false =>
    have ec : a.cells = [a] := by cases a <;> simp_all [AVal.cells, AVal.isAgg]
    rw [ec] at h
    cases j with
    | zero => cases a <;> simp_all [AVal.isAgg, AVal.at, cellIn]
    | succ j => simp at h

theorem RS.setBlk (h : RS B s tm w Own ρ M) {b o g : Nat} {cs : List AVal} (hb : s.heap[b]? = some cs) (hne : cs ≠ []) (hg : ρ[b]? = some g) {a : AVal} {v : Value} (hst : a.st = true) (hf : Hold Own w ρ M (.fly 0) a v) (hin : o + a.cells.length ≤ cs.length) :
    ∃ Own', RS B { s with heap := s.heap.set b (splice o a.cells cs) } tm (w.setCells g o v.cells.toList) Own' ρ M := by
  obtain ⟨hsz, hone, hc⟩ := Hold_cells hst hf
  obtain ⟨G, arr, e, h1, h2, h3, h4, h5⟩ := h.heap b cs hb hne
  rw [hg] at h1; cases h1
  obtain ⟨k1, k2, k3, k4⟩ := setCells_same (b := g) v.cells.toList o w
  have hFg : B.F g ∨ B.w.heap.size ≤ g := h.own0 g _ h2
  have hoth : ∀ x, x ≠ g → (w.setCells g o v.cells.toList).heap[x]? = w.heap[x]? := fun x hx => setCells_other hx _ _ _
  have hne : ∀ x ℓ, Own x = some ℓ → ℓ ≠ .var b → x ≠ g := fun x ℓ hx hl e => by subst e; rw [h2] at hx; cases hx; exact hl rfl
  refine ⟨Own.mv (cellIn b o a.cells.length), h.turn (Ext.refl _) (MLe.refl _) ?_ ?_ (fun g ℓ hg => let ⟨q, hq, _⟩ := Owner.mv_some hg; h.own0 g q hq) h.mnew rfl (by simp [h.hlen])
    (fun t a v ha hv => .inl ⟨ha, fun x p hx => ⟨by simp [Owner.mv, hx, cellIn], hoth x (hne x _ hx (by simp))⟩⟩) (fun u b hb hu => ⟨b, hb, hu⟩) (fun b' cs' hb' _ => ?_)⟩
  · exact h.wi.to (fun x ℓ hx => let ⟨q, hq, _⟩ := Owner.mv_some hx; .inl ⟨q, hq⟩) (by omega) (fun x _ hx => hoth x (fun e => by subst e; rw [h2] at hx; cases hx))
  · exact h.fr.to k1 k2 k3 (by omega) (fun x hx hF => hoth x (fun e => by subst e; rcases hFg with h | h; exact hF h; omega))
  · dsimp only at hb'
    rw [List.getElem?_set] at hb'
    split at hb'
    · rename_i hbb
      subst hbb
      right
      rw [if_pos (List.getElem?_eq_some_iff.1 hb).1] at hb'
      cases hb'
      refine ⟨g, putArr arr o v.cells.toList, e, hg, by simp [Owner.mv, h2, cellIn], setCells_here _ _ _ _ h3, by rw [putArr_size, splice_length _ _ _ hin]; exact h4, fun o' x u hx hu => ?_⟩
      rw [splice_get _ _ _ _ hin] at hx
      rw [putArr_get] at hu
      have hvl : v.cells.toList.length = a.cells.length := by simpa using hsz
      rw [hvl] at hu
      by_cases hr : o ≤ o' ∧ o' < o + a.cells.length
      · rw [if_pos hr] at hx
        rw [if_pos ⟨hr.1, hr.2, by omega⟩, Array.getElem?_toList] at hu
        obtain ⟨m1, m2⟩ := hc _ x u hx hu
        refine ⟨m1, Hold_move (Ext.refl _) (MLe.refl _) x u _ _ (fun y p hy => ⟨?_, hoth y (hne y _ hy (by simp))⟩) m2⟩
        have := cells_at hx b o a.cells.length
        rw [show o + (o' - o) = o' by omega] at this
        simp only [Owner.mv, hy, Option.map_some, this]
      · rw [if_neg hr] at hx
        rw [if_neg (by omega)] at hu
        obtain ⟨m1, m2⟩ := h5 o' x u hx hu
        refine ⟨m1, Hold_move (Ext.refl _) (MLe.refl _) x u _ _ (fun y p hy => ⟨?_, hoth y (hne y _ hy (by simp))⟩) m2⟩
        simp [Owner.mv, hy, cellIn, hr]
    · rename_i hbb
      left
      have hbb' : b' ≠ b := fun e => hbb e.symm
      refine ⟨hb', fun x ℓ hl hx => ⟨?_, hoth x (hne x ℓ hx ?_)⟩⟩
      · rcases hl with rfl | ⟨o', rfl⟩ <;> simp [Owner.mv, hx, cellIn, hbb']
      · rcases hl with rfl | ⟨o', rfl⟩ <;> simp [hbb']

/-- Cells told of anew, nothing of one's own in them. -/
theorem RS.setPure (h : RS B s tm w Own ρ M) {b o : Nat} {cs xs : List AVal} (hb : s.heap[b]? = some cs) (hne : cs ≠ []) (hin : o + xs.length ≤ cs.length)
    (hx : ∀ g j x c, ρ[b]? = some g → xs[j]? = some x → w.cell? ⟨g, o + j, none⟩ = some c → V ρ M x c) : RS B { s with heap := s.heap.set b (splice o xs cs) } tm w Own ρ M := by
  obtain ⟨G, arr, e, h1, h2, h3, h4, h5⟩ := h.heap b cs hb hne
  refine h.turn (Ext.refl _) (MLe.refl _) h.wi h.fr h.own0 h.mnew rfl (by simp [h.hlen]) (fun t a v ha hv => .inl ⟨ha, fun x p hx => ⟨hx, rfl⟩⟩) (fun u b hb hu => ⟨b, hb, hu⟩) (fun b' cs' hb' _ => ?_)
  dsimp only at hb'
  rw [List.getElem?_set] at hb'
  split at hb'
  · rename_i hbb
    subst hbb
    right
    rw [if_pos (List.getElem?_eq_some_iff.1 hb).1] at hb'
    cases hb'
    refine ⟨G, arr, e, h1, h2, h3, by rw [splice_length _ _ _ hin]; exact h4, fun o' x u hx' hu => ?_⟩
    rw [splice_get _ _ _ _ hin] at hx'
    by_cases hr : o ≤ o' ∧ o' < o + xs.length
    · rw [if_pos hr] at hx'
      have hlt : o' < cs.length := by omega
      refine ⟨(h5 o' _ u (List.getElem?_eq_getElem hlt) hu).1, Hold_of_V _ _ _ (hx G _ x u h1 hx' ?_)⟩
      rw [show o + (o' - o) = o' by omega, cell_at h3]; exact hu
    · rw [if_neg hr] at hx'
      exact h5 o' x u hx' hu
  · exact .inl ⟨hb', fun g ℓ hl hg => ⟨hg, rfl⟩⟩

/-! ### rows -/
theorem RS.setRow (h : RS B s tm w Own ρ M) {t g o n cap i : Nat} {b b' : AVal} (hb : s.env[t]? = some b) (hu : b.uniq = true) (ht : tm[t]? = some (.slice (some ⟨g, o, none⟩) n cap)) (hu' : b'.uniq = true) (hn : b'.num = b.num) (hw : b'.wid = b.wid) (hwd : b.wide → b'.wide)
    (vals : List Value) (h1 : ∀ u ∈ vals, u.oneCell' = true)
    (hps : ∀ j p, (cellPs ρ M b')[j]? = some p → (i ≤ j ∧ j < i + vals.length ∧ ∃ c, vals[j - i]? = some c ∧ p c) ∨ (¬ (i ≤ j ∧ j < i + vals.length) ∧ ∃ p0, (cellPs ρ M b)[j]? = some p0 ∧ ∀ c, p0 c → p c)) :
    (∃ arr e fz, w.heap[g]? = some (.cells arr e fz) ∧ (fz.2 = 0 ∨ arr.size ≤ fz.1) ∧ o + cap * b.wid ≤ arr.size ∧ n = b.num ∧ b.num ≤ cap) ∧ ((∀ arr e fz, w.heap[g]? = some (.cells arr e fz) → o + i + vals.length ≤ arr.size) → RS B (s.raw t b') tm (w.setCells g (o + i) vals) Own ρ M) := by
  have hd : t < s.env.length := (List.getElem?_eq_some_iff.1 hb).1
  have hH := h.env t b _ hb ht
  rw [SlotOK_plain (uniq_ref hu)] at hH
  obtain ⟨hwide, base, cap', hv, hl, hcase⟩ := Hold_uniq hu hH
  cases hv
  rcases hcase with ⟨e, _⟩ | ⟨g', o', he, ho, arr, e, fz, ha, hf, hsz, hrow⟩
  · cases e
  cases he
  refine ⟨⟨arr, e, fz, ha, hf, hsz, rfl, hl⟩, fun hsize => ?_⟩
  have hsize := hsize _ _ _ ha
  obtain ⟨k1, k2, k3, k4⟩ := setCells_same (b := g) vals (o + i) w
  have hFg : B.F g ∨ B.w.heap.size ≤ g := h.own0 g _ ho
  have hoth : ∀ x, x ≠ g → (w.setCells g (o + i) vals).heap[x]? = w.heap[x]? := fun x hx => setCells_other hx _ _ _
  have hne : ∀ x ℓ, Own x = some ℓ → ℓ ≠ .slot t [] → x ≠ g := fun x ℓ hx hl e => by subst e; rw [ho] at hx; cases hx; exact hl rfl
  refine h.turn (Ext.refl _) (MLe.refl _) ?_ ?_ h.own0 h.mnew (by simp [S.raw]) h.hlen (fun t' a v ha' hv => ?_) (fun u b0 hb0 hu0 => ?_) (fun b cs hb _ => .inl ⟨hb, fun x ℓ hl hx => ⟨hx, hoth x (hne x ℓ hx (by rcases hl with rfl | ⟨_, rfl⟩ <;> simp))⟩⟩)
  · exact h.wi.to (fun x ℓ hx => .inl ⟨ℓ, hx⟩) (by omega) (fun x _ hx => hoth x (fun e => by subst e; rw [ho] at hx; cases hx))
  · exact h.fr.to k1 k2 k3 (by omega) (fun x hx hF => hoth x (fun e => by subst e; rcases hFg with h | h; exact hF h; omega))
  · simp only [S.raw, lset_eq] at ha'
    rw [List.getElem?_set] at ha'
    split at ha'
    · rename_i hbb
      subst hbb
      first | rw [if_pos hd] at ha' | skip
      cases ha'
      right
      refine ⟨uniq_ref hu', ?_⟩
      rw [ht] at hv
      cases hv
      have hU : HoldU Own (w.setCells g (o + i) vals) ρ M (.slot t []) b' (.slice (some ⟨g, o, none⟩) b.num cap) := by
        refine ⟨hwd hwide, _, _, by rw [hn], by rw [hn]; exact hl, .inr ⟨g, o, rfl, ho, _, e, fz, setCells_here _ _ _ _ ha, by rw [putArr_size]; exact hf, by rw [putArr_size, hw]; exact hsz, fun j p hp => ?_⟩⟩
        rw [putArr_get]
        rcases hps j p hp with ⟨j1, j2, c, hc, hpc⟩ | ⟨j0, p0, hp0, himp⟩
        · refine ⟨c, ?_, h1 c (List.mem_of_getElem? hc), hpc⟩
          rw [if_pos (by omega), show o + j - (o + i) = j - i by omega]; exact hc
        · obtain ⟨c, hc, hc1, hpc⟩ := hrow j p0 hp0
          refine ⟨c, ?_, hc1, himp c hpc⟩
          rw [if_neg (by omega)]; exact hc
      cases b' <;> simp_all [AVal.uniq, Hold]
    · rename_i hbb
      left
      exact ⟨ha', fun x p hx => ⟨hx, hoth x (hne x _ hx (by simp; intro e; exact absurd e.symm hbb))⟩⟩
  · simp only [S.raw, lset_eq]
    by_cases e : u = t
    · subst e; exact ⟨b', by simp [hd], hu'⟩
    · exact ⟨b0, by rw [List.getElem?_set, if_neg (fun x => e x.symm)]; exact hb0, hu0⟩

theorem RS.newRow (h : RS B s tm w Own ρ M) {v : AVal} (hu : v.uniq = true) (hwd : v.wide) {w' : World} {arr : Array Value} {e : TypeId} {fz : Nat × Nat} (hh : w'.heap = w.heap.push (.cells arr e fz)) (hos : w'.os = w.os) (ht : w'.tape = w.tape) (ho : w'.output = w.output)
    (hf : fz.2 = 0 ∨ arr.size ≤ fz.1) {cap : Nat} (hn : v.num ≤ cap) (hs : cap * v.wid ≤ arr.size) (hc : ∀ (i : Nat) (p : Value → Prop), (cellPs ρ M v)[i]? = some p → ∃ c, arr[i]? = some c ∧ c.oneCell' = true ∧ p c) :
    RF B s tm w' v (.slice (some ⟨w.heap.size, 0, none⟩) v.num cap) := by
  obtain ⟨hp, hg0, hgo⟩ := h.push hh hos ht ho (.fly 0 [])
  refine ⟨_, ρ, M, hp, ?_⟩
  rw [SlotOK_plain (uniq_ref hu)]
  have hU : HoldU (addO Own w.heap.size (.fly 0 [])) w' ρ M (.fly 0 []) v (.slice (some ⟨w.heap.size, 0, none⟩) v.num cap) :=
    ⟨hwd, _, _, rfl, hn, .inr ⟨_, 0, rfl, addO_here, arr, e, fz, hg0, hf, by simpa using hs, fun i p hp => by simpa using hc i p hp⟩⟩
  cases v <;> simp_all [AVal.uniq, Hold]

theorem RS.growRow (h : RS B s tm w Own ρ M) {x v : AVal} {g o n m cap : Nat} (hU : HoldU Own w ρ M (.fly 0 []) x (.slice (some ⟨g, o, none⟩) n cap)) (hu : v.uniq = true) (hwd : x.wide → v.wide) (hnum : v.num = x.num + m) (hwid : v.wid = x.wid) (hroom : n + m ≤ cap)
    (news : List Value) (h1 : ∀ u ∈ news, u.oneCell' = true) (hlen : news.length = m * x.wid) (qs : List (Value → Prop)) (hps : cellPs ρ M v = cellPs ρ M x ++ qs) (hxl : (cellPs ρ M x).length = x.num * x.wid)
    (hq : ∀ (j : Nat) p, qs[j]? = some p → ∃ c, news[j]? = some c ∧ p c) :
    n = x.num ∧ (∃ arr e fz, w.heap[g]? = some (.cells arr e fz) ∧ (fz.2 = 0 ∨ arr.size ≤ fz.1) ∧ o + cap * x.wid ≤ arr.size) ∧ RF B s tm (w.setCells g (o + n * x.wid) news) v (.slice (some ⟨g, o, none⟩) (n + m) cap) := by
  obtain ⟨hwide, base, cap', hv, hl, hcase⟩ := hU
  cases hv
  rcases hcase with ⟨e, _⟩ | ⟨g', o', he, ho, arr, e, fz, ha, hf, hsz, hrow⟩
  · cases e
  cases he
  refine ⟨rfl, ⟨arr, e, fz, ha, hf, hsz⟩, ?_⟩
  obtain ⟨k1, k2, k3, k4⟩ := setCells_same (b := g) news (o + x.num * x.wid) w
  have hFg : B.F g ∨ B.w.heap.size ≤ g := h.own0 g _ ho
  have hoth : ∀ y, y ≠ g → (w.setCells g (o + x.num * x.wid) news).heap[y]? = w.heap[y]? := fun y hy => setCells_other hy _ _ _
  have hne : ∀ y ℓ, Own y = some ℓ → ℓ.home = true → y ≠ g := fun y ℓ hy hl e => by subst e; rw [ho] at hy; cases hy; cases hl
  refine ⟨Own, ρ, M, h.away ?_ ?_ h.own0 (fun y ℓ hl hy => ⟨hy, hoth y (hne y ℓ hy hl)⟩), ?_⟩
  · exact h.wi.to (fun y ℓ hx => .inl ⟨ℓ, hx⟩) (by omega) (fun y _ hx => hoth y (fun e => by subst e; rw [ho] at hx; cases hx))
  · exact h.fr.to k1 k2 k3 (by omega) (fun y hx hF => hoth y (fun e => by subst e; rcases hFg with h | h; exact hF h; omega))
  · rw [SlotOK_plain (uniq_ref hu)]
    have hmul : (x.num + m) * x.wid ≤ cap * x.wid := Nat.mul_le_mul_right _ hroom
    rw [Nat.add_mul] at hmul
    have hU' : HoldU Own (w.setCells g (o + x.num * x.wid) news) ρ M (.fly 0 []) v (.slice (some ⟨g, o, none⟩) (x.num + m) cap) := by
      refine ⟨hwd hwide, _, _, by rw [hnum], by rw [hnum]; exact hroom, .inr ⟨g, o, rfl, ho, _, e, fz, setCells_here _ _ _ _ ha, by rw [putArr_size]; exact hf, by rw [putArr_size, hwid]; exact hsz, fun j p hp => ?_⟩⟩
      rw [putArr_get]
      rw [hps, List.getElem?_append] at hp
      split at hp
      · rename_i hlt
        obtain ⟨c, hc, hc1, hpc⟩ := hrow j p hp
        exact ⟨c, by rw [if_neg (by omega)]; exact hc, hc1, hpc⟩
      · rename_i hge
        obtain ⟨c, hc, hpc⟩ := hq _ p hp
        have hlt := (List.getElem?_eq_some_iff.1 hc).1
        refine ⟨c, ?_, h1 c (List.mem_of_getElem? hc), hpc⟩
        rw [if_pos (by omega), show o + j - (o + x.num * x.wid) = j - (cellPs ρ M x).length by omega]; exact hc
    cases v <;> simp_all [AVal.uniq, Hold]

end
end Go.Proofs.YtognccpmaljamaaGreatDoor.Sa
