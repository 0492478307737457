/- SiteAsks answers true for every input whose arguments hold together at most 1048576 values and letters, and leaves its arguments as they were; the listed package-level tables hold what the program's text lays. -/
import Derived.Test.YtognccpmaljamaaGreatDoorB2
import Derived.LoopN
import Derived.OrdersHeld
set_option linter.unusedVariables false
set_option linter.unusedSimpArgs false
set_option linter.unusedSectionVars false
set_option linter.unnecessarySimpa false
set_option linter.constructorNameAsVariable false
/- AS, part S17: what a call comes to; the blocks that go with it. -/
namespace Go.Proofs.YtognccpmaljamaaGreatDoor.Sa
open Go
variable [GlobMem]

/-- The function f, called on args: R of what it returns. -/
noncomputable def Invokes (P : Program) (f : FuncId) (args : Array Value) (w : World) (R : Value → World → Prop) : Prop :=
  ((callFunc f args).run P w = .ok (.enter f args) w ∧ Calls P f args w fun | .returned u, w' => R u w' | _, _ => False) ∨ ∃ u w', (callFunc f args).run P w = .ok (.value u) w' ∧ R u w'

theorem Invokes.mono {P : Program} {f : FuncId} {args : Array Value} {w : World} {R R' : Value → World → Prop} (h : Invokes P f args w R) (hr : ∀ u w', R u w' → R' u w') : Invokes P f args w R' := by
  rcases h with ⟨h1, h2⟩ | ⟨u, w', h1, h2⟩
  · exact .inl ⟨h1, Calls.mono h2 fun e w' he => by cases e <;> first | exact hr _ _ he | exact he⟩
  · exact .inr ⟨u, w', h1, hr _ _ h2⟩

/-- Where a call begins: what is owned may be turned. -/
noncomputable def bs0 (Own : Owner) (w : World) (M : Mem) (ρ : List Nat) : Base := ⟨fun g => Own g ≠ none, w, M, ρ⟩

/-- What it is for a call to come to a value and blocks of which G holds. -/
noncomputable def CallOK (P : Program) (f : FuncId) (args : List AVal) (h : List (List AVal)) (G : AVal → List (List AVal) → Prop) : Prop :=
  ∀ (Own : Owner) (w : World) (ρ : List Nat) (M : Mem) (xs : List Value), RS (bs0 Own w M ρ) ⟨[], h⟩ #[] w Own ρ M → HoldL Own w ρ M (.fly 1) 0 args xs →
    Invokes P f xs.toArray w fun u w' => ∃ v h' Own' ρ' M', G v h' ∧ RS (bs0 Own w M ρ) ⟨[], h'⟩ #[] w' Own' ρ' M' ∧ Hold Own' w' ρ' M' (.fly 0) v u

noncomputable def OracleOK (P : Program) (O : Oracle) : Prop := ∀ f args h K r, O f args h K = some r → CallOK P f args h fun v h' => K v h' = some r

/-- The blocks r and what is under way go with the call. -/
noncomputable def subLoc (r : List Nat) : Loc → Option Loc
  | .fly 1 p => some (.fly 1 p)
  | .var b => if b ∈ r then some (.var (pos b r)) else none
  | .cell b o => if b ∈ r then some (.cell (pos b r) o) else none
  | _ => none

noncomputable def subO (r : List Nat) (Own : Owner) : Owner := fun g => (Own g).bind (subLoc r)

noncomputable def locBack (back : Nat → Nat) : Loc → Loc
  | .var b => .var (back b)
  | .cell b o => .cell (back b) o
  | .fly 0 p => .fly 0 p
  | _ => .fly 7 []

noncomputable def mergeO (back : Nat → Nat) (Own Own1 Own2 : Owner) : Owner := fun g => match Own2 g with
  | some ℓ => some (locBack back ℓ)
  | none => match Own1 g with
    | some _ => none
    | none => Own g

theorem subO_some {r : List Nat} {Own : Owner} {g : Nat} {ℓ : Loc} (h : subO r Own g = some ℓ) : ∃ q, Own g = some q ∧ subLoc r q = some ℓ := by
  unfold subO at h
  cases hq : Own g with
  | none => simp [hq] at h
  | some q => simp [hq] at h; exact ⟨q, rfl, h⟩

theorem pos_get {b : Nat} : ∀ {r : List Nat}, b ∈ r → r[pos b r]? = some b
  | [], h => by cases h
  | x :: r, h => by
    unfold pos
    split
    · rename_i e; have e := Nat.eq_of_beq_eq_true e; subst e; rfl
    · rename_i e
      have e := Nat.ne_of_beq_eq_false e
      rcases List.mem_cons.1 h with rfl | h
      · exact absurd rfl e
      · simpa using pos_get h

theorem pos_at {r : List Nat} (hn : r.Nodup) {i b : Nat} (h : r[i]? = some b) : pos b r = i := by
  have hm : b ∈ r := List.mem_of_getElem? h
  have h1 := pos_get hm
  have hi := (List.getElem?_eq_some_iff.1 h).1
  have hp := (List.getElem?_eq_some_iff.1 h1).1
  have e1 := (List.getElem?_eq_some_iff.1 h).2
  have e2 := (List.getElem?_eq_some_iff.1 h1).2
  exact (List.getElem_inj hn).1 (by rw [e1, e2])

theorem setAll_length : ∀ (r : List Nat) (cs : List (List AVal)) (heap : List (List AVal)), (setAll heap r cs).length = heap.length
  | [], [], _ => rfl
  | [], _ :: _, _ => rfl
  | b :: bs, [], _ => rfl
  | b :: bs, c :: cs, heap => by rw [setAll, setAll_length bs cs]; simp

theorem setAll_other {b : Nat} : ∀ (r : List Nat) (cs : List (List AVal)) (heap : List (List AVal)), b ∉ r → (setAll heap r cs)[b]? = heap[b]?
  | [], [], _, _ => rfl
  | [], _ :: _, _, _ => rfl
  | x :: bs, [], _, _ => rfl
  | x :: bs, c :: cs, heap, h => by
    rw [setAll, setAll_other bs cs _ (fun e => h (by simp [e])), List.getElem?_set]
    rw [if_neg (fun e => h (by simp [e]))]

theorem setAll_at : ∀ (r : List Nat) (cs : List (List AVal)) (heap : List (List AVal)) (i b : Nat), r.Nodup → r[i]? = some b → i < cs.length → b < heap.length → (setAll heap r cs)[b]? = cs[i]?
  | [], _, _, i, b, _, h, _, _ => by simp at h
  | x :: bs, [], _, i, b, _, _, h, _ => by simp at h
  | x :: bs, c :: cs, heap, 0, b, hn, h, _, hb => by
    simp at h; subst h
    rw [setAll, setAll_other bs cs _ (List.nodup_cons.1 hn).1, List.getElem?_set]
    simp [hb]
  | x :: bs, c :: cs, heap, i + 1, b, hn, h, hc, hb => by
    rw [setAll]
    have := setAll_at bs cs (heap.set x c) i b (List.nodup_cons.1 hn).2 (by simpa using h) (by simpa using hc) (by simpa using hb)
    simpa using this

section
variable {P : Program} {B : Base} {s : S} {tm : Array Value} {w : World} {Own : Owner} {ρ : List Nat} {M : Mem}

noncomputable def backF (r : List Nat) (len : Nat) : Nat → Nat := fun b => match r[b]? with | some x => x | none => b - r.length + len

theorem call_core (h : RS B s tm w Own ρ M) {f : FuncId} {args : List AVal} {xs : List Value} (ha : HoldL Own w ρ M (.fly 1) 0 args xs) (r : List Nat) (hnd : r.Nodup) (into : Nat → Nat)
    (hargs : ∀ b, b ∈ ptrsL args → b ∈ r) (hinto : ∀ b, b ∈ r → into b = pos b r)
    (hr : ∀ b, b ∈ r → ∃ cs, s.heap[b]? = some cs ∧ cs ≠ [] ∧ ∀ c, c ∈ ptrsL cs → c ∈ r)
    {G : AVal → List (List AVal) → Prop} (hcall : CallOK P f (renL into args) (r.map fun b => renL into (s.heap.getD b [])) G) :
    Invokes P f xs.toArray w fun u w' => ∃ v h' Own' ρ' M', G v h' ∧ RS B { s with heap := setAll s.heap r (renLL (backF r s.heap.length) (h'.take r.length)) ++ renLL (backF r s.heap.length) (h'.drop r.length) } tm w' Own' ρ' M' ∧ ∀ fb : Nat → Nat, fb = backF r s.heap.length ∨ h' = [] → Hold Own' w' ρ' M' (.fly 0) (v.ren fb) u := by
  have hlt : ∀ b, b ∈ r → b < s.heap.length := fun b hb => by
    obtain ⟨cs, h1, _⟩ := hr b hb
    exact (List.getElem?_eq_some_iff.1 h1).1
  have hρ1 : ∀ b, b ∈ r → ∀ g, ρ[b]? = some g → (r.map fun b => ρ.getD b 0)[into b]? = some g := fun b hb g hg => by
    rw [hinto b hb, List.getElem?_map, pos_get hb]
    simp [List.getD, hg]
  -- the state that goes with the call
  have hRS1 : RS (bs0 (subO r Own) w M (r.map fun b => ρ.getD b 0)) ⟨[], r.map fun b => renL into (s.heap.getD b [])⟩ #[] w (subO r Own) (r.map fun b => ρ.getD b 0) M := by
    refine ⟨?_, Fr.refl _ _, MLe.refl _, ?_, Ext.refl _, fun g ℓ hg => .inl (by rw [bs0]; simp [hg]), fun g o c hc => .inl hc, rfl, fun t a v ht => by simp at ht, by simp, fun b cs hb hne => ?_⟩
    · exact h.wi.to (fun g ℓ hg => let ⟨q, hq, _⟩ := subO_some hg; .inl ⟨q, hq⟩) (Nat.le_refl _) (fun _ _ _ => rfl)
    · exact ⟨h.glob.1, h.world, fun g o c hc hF => by
        have := h.glob.1 g o c hc
        cases hg : subO r Own g with
        | none => exact hF hg
        | some q =>
          obtain ⟨q', hq, _⟩ := subO_some hg
          rw [h.wi.free g q' hq o] at this
          cases this⟩
    · dsimp only at hb
      rw [List.getElem?_map, Option.map_eq_some_iff] at hb
      obtain ⟨x, hx, rfl⟩ := hb
      have hxr := List.mem_of_getElem? hx
      obtain ⟨cs, h1, h2, h3⟩ := hr x hxr
      have hp := pos_at hnd hx
      rw [getD_of h1]
      refine BlkAt.ren (MLe.refl _) (fun c hc g hg => hρ1 c (h3 c hc) g hg) (fun g hg => ?_) (fun g hg => ⟨?_, rfl⟩) (fun g o hg => ⟨?_, rfl⟩) (h.heap x cs h1 h2)
      · have := hρ1 x hxr g hg
        rwa [hinto x hxr, hp] at this
      · simp [subO, hg, subLoc, hxr, hp]
      · simp [subO, hg, subLoc, hxr, hp]
  have hargs1 : HoldL (subO r Own) w (r.map fun b => ρ.getD b 0) M (.fly 1) 0 (renL into args) xs :=
    HoldL_ren (MLe.refl _) args xs 0 _ _ (fun b hb g hg => hρ1 b (hargs b hb) g hg) (fun g p hg => ⟨by simp [subO, hg, subLoc], rfl⟩) ha
  refine (hcall _ w _ M xs hRS1 hargs1).mono fun u w' hpost => ?_
  obtain ⟨v, h', Own2, ρ2, M2, hG, hRS2, hH2⟩ := hpost
  -- laid back
  have hn : r.length ≤ h'.length := by
    rcases Nat.eq_zero_or_pos r.length with e | e
    · omega
    · have hl : r.length - 1 < r.length := by omega
      have h1 := hRS2.ext (r.length - 1) _ (by show (r.map fun b => ρ.getD b 0)[r.length - 1]? = _; exact List.getElem?_eq_getElem (by simpa using hl))
      have := (List.getElem?_eq_some_iff.1 h1).1
      have h2 := hRS2.hlen
      simp only at h2
      omega
  have hlen2 : ρ2.length = h'.length := hRS2.hlen
  have own1 : ∀ g ℓ, Own2 g = some ℓ → (∃ q, Own g = some q) ∨ w.heap.size ≤ g := fun g ℓ hg => by
    rcases hRS2.own0 g ℓ hg with h1 | h1
    · left
      rw [bs0] at h1
      cases hs : subO r Own g with
      | none => exact absurd hs h1
      | some q => obtain ⟨q', hq', _⟩ := subO_some hs; exact ⟨q', hq'⟩
    · exact .inr h1
  have stay : ∀ g q, Own g = some q → subLoc r q = none → Own2 g = none ∧ w'.heap[g]? = w.heap[g]? ∧ mergeO (backF r s.heap.length) Own (subO r Own) Own2 g = some q := fun g q hq hs => by
    have hsub : subO r Own g = none := by simp [subO, hq, hs]
    have hg := h.wi.lt g q hq
    have h2 : Own2 g = none := by
      cases h2 : Own2 g with
      | none => rfl
      | some ℓ =>
        rcases hRS2.own0 g ℓ h2 with h1 | h1
        · rw [bs0] at h1; exact absurd hsub h1
        · rw [bs0] at h1; dsimp only at h1; omega
    refine ⟨h2, hRS2.fr.keep g hg (fun e => e hsub), ?_⟩
    simp [mergeO, h2, hsub, hq]
  have hmerge : ∀ g ℓ, mergeO (backF r s.heap.length) Own (subO r Own) Own2 g = some ℓ → (∃ q, Own2 g = some q) ∨ (Own2 g = none ∧ subO r Own g = none ∧ Own g = some ℓ) := fun g ℓ hg => by
    unfold mergeO at hg
    split at hg
    · rename_i q hq; exact .inl ⟨q, hq⟩
    · rename_i h2
      split at hg
      · cases hg
      · rename_i h1; exact .inr ⟨h2, h1, hg⟩
  have hρ2 : ∀ b g, ρ2[b]? = some g → (ρ ++ ρ2.drop r.length)[backF r s.heap.length b]? = some g := fun b g hg => by
    unfold backF
    cases hb : r[b]? with
    | some x =>
      have hx := hlt x (List.mem_of_getElem? hb)
      have hxl : x < ρ.length := by rw [h.hlen]; exact hx
      have h1 : (r.map fun b => ρ.getD b 0)[b]? = some ρ[x] := by rw [List.getElem?_map, hb]; simp [List.getD, hxl]
      have h2 := hRS2.ext b _ h1
      rw [h2] at hg
      cases hg
      rw [List.getElem?_append_left hxl]
      exact List.getElem?_eq_getElem hxl
    | none =>
      have hb' : r.length ≤ b := by
        rcases Nat.lt_or_ge b r.length with h | h
        · rw [List.getElem?_eq_getElem h] at hb; cases hb
        · exact h
      dsimp only
      rw [List.getElem?_append_right (by rw [h.hlen]; omega), List.getElem?_drop, h.hlen]
      rw [show r.length + (b - r.length + s.heap.length - s.heap.length) = b by omega]
      exact hg
  refine ⟨v, h', mergeO (backF r s.heap.length) Own (subO r Own) Own2, ρ ++ ρ2.drop r.length, M2, hG, ?_, fun fb hfb => ?_⟩
  · refine h.turn (Ext.append _ _) hRS2.mle ?_ ?_ ?_ ?_ rfl ?_ (fun t a v ha hv => .inl ⟨ha, fun g p hg => let ⟨_, h2, h3⟩ := stay g _ hg rfl; ⟨h3, h2⟩⟩) (fun u b hb hu => ⟨b, hb, hu⟩) (fun b cs hb hne => ?_)
    · refine ⟨hRS2.wi.agree, fun g ℓ hg o => ?_, fun g ℓ hg => ?_⟩
      · rcases hmerge g ℓ hg with ⟨q, hq⟩ | ⟨h2, h1, h0⟩
        · exact hRS2.wi.free g q hq o
        · cases hc : M2 g o with
          | none => rfl
          | some c =>
            rcases hRS2.mnew g o c hc with hm | hm | hm
            · rw [show (bs0 (subO r Own) w M (r.map fun b => ρ.getD b 0)).M = M from rfl, h.wi.free g ℓ h0 o] at hm; cases hm
            · rw [bs0] at hm; exact absurd h1 hm
            · rw [bs0] at hm; have := h.wi.lt g ℓ h0; dsimp only at hm; omega
      · rcases hmerge g ℓ hg with ⟨q, hq⟩ | ⟨h2, h1, h0⟩
        · exact hRS2.wi.lt g q hq
        · exact Nat.lt_of_lt_of_le (h.wi.lt g ℓ h0) hRS2.fr.size
    · refine h.fr.to hRS2.fr.os hRS2.fr.tape hRS2.fr.output hRS2.fr.size (fun g hg hF => hRS2.fr.keep g (Nat.lt_of_lt_of_le hg h.fr.size) (fun e => ?_))
      cases hs : subO r Own g with
      | none => exact e hs
      | some q =>
        obtain ⟨q', hq', _⟩ := subO_some hs
        rcases h.own0 g q' hq' with h1 | h1
        · exact hF h1
        · omega
    · intro g ℓ hg
      rcases hmerge g ℓ hg with ⟨q, hq⟩ | ⟨_, _, h0⟩
      · rcases own1 g q hq with ⟨q', hq'⟩ | h1
        · exact h.own0 g q' hq'
        · exact .inr (Nat.le_trans h.fr.size h1)
      · exact h.own0 g ℓ h0
    · intro g o c hc
      rcases hRS2.mnew g o c hc with hm | hm | hm
      · exact h.mnew g o c hm
      · right
        cases hs : subO r Own g with
        | none => exact absurd hs hm
        | some q => obtain ⟨q', hq', _⟩ := subO_some hs; exact h.own0 g q' hq'
      · exact .inr (.inr (Nat.le_trans h.fr.size hm))
    · simp only [List.length_append, List.length_drop, setAll_length, renLL_length, h.hlen, hlen2]
    · dsimp only at hb
      rw [List.getElem?_append, setAll_length] at hb
      split at hb
      · rename_i hbl
        by_cases hbr : b ∈ r
        · right
          have hpos := pos_get hbr
          have hpl := (List.getElem?_eq_some_iff.1 hpos).1
          rw [setAll_at r _ _ (pos b r) b hnd hpos (by rw [renLL_length, List.length_take]; omega) hbl, renLL_get, List.getElem?_take, if_pos hpl, Option.map_eq_some_iff] at hb
          obtain ⟨cs', hcs', rfl⟩ := hb
          have hne' : cs' ≠ [] := fun e => by subst e; exact hne rfl
          have hback : backF r s.heap.length (pos b r) = b := by simp [backF, hpos]
          refine BlkAt.ren (MLe.refl _) (fun c _ g hg => hρ2 c g hg) (fun g hg => ?_) (fun g hg => ⟨?_, rfl⟩) (fun g o hg => ⟨?_, rfl⟩) (hRS2.heap (pos b r) cs' hcs' hne')
          · have := hρ2 (pos b r) g hg
            rwa [hback] at this
          · simp [mergeO, hg, locBack, hback]
          · simp [mergeO, hg, locBack, hback]
        · left
          rw [setAll_other r _ _ hbr] at hb
          refine ⟨hb, fun g ℓ hl hg => ?_⟩
          obtain ⟨_, h2, h3⟩ := stay g ℓ hg (by rcases hl with rfl | ⟨o, rfl⟩ <;> simp [subLoc, hbr])
          exact ⟨h3, h2⟩
      · rename_i hbl
        right
        rw [renLL_get, List.getElem?_drop, Option.map_eq_some_iff] at hb
        obtain ⟨cs', hcs', rfl⟩ := hb
        have hne' : cs' ≠ [] := fun e => by subst e; exact hne rfl
        have hnone : r[r.length + (b - s.heap.length)]? = none := List.getElem?_eq_none (by omega)
        have hback : backF r s.heap.length (r.length + (b - s.heap.length)) = b := by
          simp only [backF, hnone]; omega
        refine BlkAt.ren (MLe.refl _) (fun c _ g hg => hρ2 c g hg) (fun g hg => ?_) (fun g hg => ⟨?_, rfl⟩) (fun g o hg => ⟨?_, rfl⟩) (hRS2.heap _ cs' hcs' hne')
        · have := hρ2 _ g hg
          rwa [hback] at this
        · simp [mergeO, hg, locBack, hback]
        · simp [mergeO, hg, locBack, hback]
  · refine Hold_ren (MLe.refl _) v u _ _ (fun b hb g hg => ?_) (fun g p hg => ⟨by simp [mergeO, hg, locBack], rfl⟩) hH2
    rcases hfb with rfl | e
    · exact hρ2 b g hg
    · subst e
      have := (List.getElem?_eq_some_iff.1 hg).1
      simp at hlen2
      subst hlen2
      simp at this

theorem nodupB_ok : ∀ {r : List Nat}, nodupB r = true → r.Nodup
  | [], _ => List.nodup_nil
  | a :: l, h => by
    unfold nodupB at h
    split at h
    · cases h
    · rename_i h0
      refine List.nodup_cons.2 ⟨fun hm => ?_, nodupB_ok h⟩
      rw [List.any_eq_false] at h0
      exact h0 a hm (Nat.beq_refl a)

theorem anyB {r : List Nat} {b : Nat} (h : r.any (Nat.beq b) = true) : b ∈ r := by
  obtain ⟨x, hx, e⟩ := List.any_eq_true.1 h
  rw [Nat.eq_of_beq_eq_true e]; exact hx

theorem closedB_ok {heap : List (List AVal)} {ps r : List Nat} (h : closedB heap ps r = true) : r.Nodup ∧ (∀ b, b ∈ ps → b ∈ r) ∧ ∀ b, b ∈ r → ∃ cs, heap[b]? = some cs ∧ cs ≠ [] ∧ ∀ c, c ∈ ptrsL cs → c ∈ r := by
  unfold closedB at h
  split at h
  · cases h
  · rename_i h1
    split at h
    · cases h
    · rename_i h2
      refine ⟨nodupB_ok h1, fun b hb => anyB (List.all_eq_true.1 h2 b hb), fun b hb => ?_⟩
      have := List.all_eq_true.1 h b hb
      split at this
      · cases this
      · rename_i cs hne hcs
        exact ⟨cs, hcs, fun e => hne e, fun c hc => anyB (List.all_eq_true.1 this c hc)⟩
      · cases this

theorem callA_ok {O : Oracle} (hO : OracleOK P O) (h : RS B s tm w Own ρ M) {f : FuncId} {args : List AVal} {xs : List Value} (ha : HoldL Own w ρ M (.fly 1) 0 args xs) {K : KV} {r : Res} (hr : callA O f args s K = some r) :
    Invokes P f xs.toArray w fun u w' => ∃ v s', K v s' = some r ∧ s'.env = s.env ∧ ∃ Own' ρ' M', RS B s' tm w' Own' ρ' M' ∧ Hold Own' w' ρ' M' (.fly 0) v u := by
  unfold callA at hr
  split at hr
  · rename_i hp
    have hcall := hO _ _ _ _ _ hr
    have core := call_core h ha [] List.nodup_nil (fun b => b) (by rw [hp]; exact fun b hb => nomatch hb) (fun b hb => by cases hb) (fun b hb => by cases hb) (by rw [renL_id]; exact hcall)
    refine core.mono fun u w' => ?_
    rintro ⟨v, h', Own', ρ', M', hG, hRS, hH⟩
    split at hG
    · have hv := hH (fun b => b) (.inr rfl)
      rw [ren_id] at hv
      exact ⟨v, s, hG, rfl, Own', ρ', M', by simpa [setAll, renLL] using hRS, hv⟩
    · rename_i hne
      have eb : backF [] s.heap.length = fun b => b + s.heap.length := by funext b; simp [backF]
      have hv := hH _ (.inl rfl)
      rw [eb] at hv hRS
      exact ⟨_, _, hG, rfl, Own', ρ', M', by simpa [setAll] using hRS, hv⟩
  · rename_i hp
    dsimp only at hr
    split at hr
    · cases hr
    · rename_i hcl
      obtain ⟨h1, h2, h3⟩ := closedB_ok hcl
      have hcall := hO _ _ _ _ _ hr
      have core := call_core h ha _ h1 (fun b => pos b (reach s.heap s.heap.length (addNew [] (ptrsL args)) (addNew [] (ptrsL args)))) h2 (fun b _ => rfl) h3 hcall
      refine core.mono fun u w' => ?_
      rintro ⟨v, h', Own', ρ', M', hG, hRS, hH⟩
      exact ⟨_, _, hG, rfl, Own', ρ', M', hRS, hH _ (.inl rfl)⟩

end
end Go.Proofs.YtognccpmaljamaaGreatDoor.Sa

/- AS, part S18: calls as operations; one operation, whichever. -/
namespace Go.Proofs.YtognccpmaljamaaGreatDoor.Sa
open Go
variable [GlobMem]

theorem HoldL_append {Own : Owner} {w : World} {ρ : List Nat} {M : Mem} {ℓ : List Nat → Loc} : ∀ (as : List AVal) (vs : List Value) (bs : List AVal) (us : List Value) (i : Nat), HoldL Own w ρ M ℓ i as vs → HoldL Own w ρ M ℓ (i + as.length) bs us → HoldL Own w ρ M ℓ i (as ++ bs) (vs ++ us)
  | [], [], bs, us, i, _, h => by simpa using h
  | a :: as, v :: vs, bs, us, i, h, h2 => by
    simp only [HoldL, List.cons_append] at h ⊢
    exact ⟨h.1, HoldL_append as vs bs us (i + 1) h.2 (by simpa [Nat.add_assoc, Nat.add_comm 1] using h2)⟩
  | [], _ :: _, _, _, _, h, _ => by simp only [HoldL] at h
  | _ :: _, [], _, _, _, h, _ => by simp only [HoldL] at h

theorem HoldL_of_VL' {Own : Owner} {w : World} {ρ : List Nat} {M : Mem} (as : List AVal) (vs : List Value) (i : Nat) (ℓ : List Nat → Loc) (h : VL ρ M as vs) : HoldL Own w ρ M ℓ i as vs := HoldL_of_VL as vs i ℓ h

theorem HoldL_len {Own : Owner} {w : World} {ρ : List Nat} {M : Mem} {ℓ : List Nat → Loc} {i : Nat} {as : List AVal} {vs : List Value} (h : HoldL Own w ρ M ℓ i as vs) : as.length = vs.length := ((HoldL_iff _ _ _).1 h).1

section
variable {P : Program} {cx : Cx} {B : Base} {o : Oper} {a : Act} {w : World} {s : S}

noncomputable def argTo (k : Nat) : Loc → Loc
  | .fly 0 p => .fly 1 (k :: p)
  | .fly 1 (j :: p) => if j = k then .fly 7 [] else .fly 1 (j :: p)
  | q => q

theorem notRef {v : AVal} (h : v.isRef = false) : v.ref? = none := by cases v <;> simp_all [AVal.isRef, AVal.ref?]

theorem args_ok : ∀ (xs : List Operand) (ts ms : List Nat) (s : S) (K : List AVal → S → Option Res) (r : Res) (Own : Owner) (ρ : List Nat) (M : Mem) (acc : List AVal) (accv : List Value), RS B s a.tmps w Own ρ M → HoldL Own w ρ M (.fly 1) 0 acc accv →
    argsRd cx ms xs ts s K = some r → ∃ vs s' Own' M', K vs s' = some r ∧ RS B s' a.tmps w Own' ρ M' ∧ MLe M M' ∧ HoldL Own' w ρ M' (.fly 1) 0 (acc ++ vs) (accv ++ xs.map a.eval)
  | [], ts, ms, s, K, r, Own, ρ, M, acc, accv, h, ha, hr => ⟨[], s, Own, M, hr, h, MLe.refl _, by simpa using ha⟩
  | x :: xs, ts, ms, s, K, r, Own, ρ, M, acc, accv, h, ha, hr => by
    unfold argsRd at hr
    obtain ⟨v, s1, O1, M1, hK, h1, hf, hM, hkeep⟩ := rd_okF h _ _ x _ r hr
    split at hK
    · cases hK
    · rename_i href
      have hr0 := notRef href
      rw [SlotOK_plain hr0] at hf
      have hlen := HoldL_len ha
      have h2 := h1.mv (argTo acc.length) (fun _ _ => rfl) (fun _ => rfl) (fun _ _ => rfl)
      have hacc : HoldL (O1.mv (argTo acc.length)) w ρ M1 (.fly 1) 0 (acc ++ [v]) (accv ++ [a.eval x]) := by
        rw [HoldL_iff] at ha ⊢
        refine ⟨by simp [hlen], fun j b u hb hu => ?_⟩
        rw [List.getElem?_append] at hb hu
        by_cases hj : j < acc.length
        · rw [if_pos hj] at hb
          rw [if_pos (by omega)] at hu
          refine Hold_move (Ext.refl _) hM b u _ _ (fun g p hg => ⟨?_, rfl⟩) (ha.2 j b u hb hu)
          have := hkeep g 1 _ (by decide) hg
          have hne : j ≠ acc.length := by omega
          simp [Owner.mv, this, argTo, hne]
        · rw [if_neg hj] at hb
          rw [if_neg (by omega)] at hu
          have ej : j = acc.length := by
            have := (List.getElem?_eq_some_iff.1 hb).1
            simp at this; omega
          subst ej
          simp at hb
          rw [hlen] at hu
          simp at hu
          subst hb hu
          refine Hold_move (Ext.refl _) (MLe.refl _) v _ _ _ (fun g p hg => ⟨?_, rfl⟩) hf
          simp [Owner.mv, hg, argTo]
      obtain ⟨vs, s', O', M', hK', h', hM', hH'⟩ := args_ok xs ts.tail ms.tail s1 _ r _ ρ M1 _ _ h2 hacc hK
      exact ⟨v :: vs, s', O', M', hK', h', hM.trans hM', by simpa using hH'⟩

/-- What stepA comes to is sound; the value is known at the end alone. -/
noncomputable def StepOK' (P : Program) (B : Base) (o : Oper) (a : Act) (w : World) (x : Option Res) (K : KV) : Prop :=
  ∀ r, x = some r → ∀ (next : Act → World → Prop) (Q : Exit → Act → World → Prop), (∀ v s' v' w', K v s' = some r → RF B s' a.tmps w' v v' → next (a.put o.dst v') w') → o.wp P a w next Q

theorem StepOK.to' {x : Option Res} {K : KV} (h : StepOK P B o a w x K) : StepOK' P B o a w x K := fun r hr next Q hn =>
  let ⟨v, s', hK, hop⟩ := h r hr
  hop next Q fun v' w' hf => hn v s' v' w' hK hf

theorem step_call {O : Oracle} (hO : OracleOK P O) (h : RSx B s a.tmps w) (c : Call) (hop : o.op = .call c) (f : Operand) (hc : c.callee = .value f) (ms : List Nat) (K : KV) :
    StepOK' P B o a w (match s.rdo none f with
      | .fn g caps => argsRd cx ms c.args.toList c.argTypes.toList s fun vs s => callA O g (vs ++ caps) s K
      | _ => none) K := by
  intro r hr next Q hn
  split at hr
  · rename_i g caps hg
    obtain ⟨Own, ρ, M, hs⟩ := h
    have hk := rdo_ok hs none f
    have hV : ∃ vs : List Value, a.eval f = .func (.func g) #[] vs.toArray ∧ VL ρ M caps vs := by
      cases f with
      | tmp t =>
        rcases hk with ⟨h1, h2⟩ | h1
        · have := hs.env t _ _ h1 h2
          rw [hg] at this
          simpa only [SlotOK, Hold, AVal.uniq, V] using this
        · rw [h1] at hg; cases hg
      | const c => rw [hg] at hk; simpa only [Hold, AVal.uniq, V] using hk.1
      | global q => rw [hg] at hk; simpa only [Hold, AVal.uniq, V] using hk.1
      | func q => rw [hg] at hk; simpa only [Hold, AVal.uniq, V] using hk.1
    obtain ⟨cs, hf, hcs⟩ := hV
    obtain ⟨vs, s1, O1, M1, hK, h1, hM, hH⟩ := args_ok c.args.toList c.argTypes.toList ms s _ r Own ρ M [] [] hs (by simp only [HoldL]) hr
    simp only [List.nil_append] at hH
    have hall : HoldL O1 w ρ M1 (.fly 1) 0 (vs ++ caps) (c.args.toList.map a.eval ++ cs) :=
      HoldL_append _ _ _ _ 0 hH (HoldL_of_VL' _ _ _ _ (VL_mono (Ext.refl _) hM _ _ hcs))
    have hinv := callA_ok hO h1 hall hK
    have hpost : ∀ u w', (∃ v s', K v s' = some r ∧ s'.env = s1.env ∧ ∃ Own' ρ' M', RS B s' a.tmps w' Own' ρ' M' ∧ Hold Own' w' ρ' M' (.fly 0) v u) → next (a.put o.dst u) w' := by
      rintro u w' ⟨v, s', hK', _, Own', ρ', M', hR, hHv⟩
      refine hn v s' u w' hK' ⟨Own', ρ', M', hR, ?_⟩
      cases hrf : v.ref? with
      | none => rw [SlotOK_plain hrf]; exact hHv
      | some q => cases v <;> simp_all [AVal.ref?, Hold, AVal.uniq, V]
    have hargs : (c.args.toList.map a.eval ++ cs).toArray = c.args.map a.eval ++ cs.toArray := by
      apply Array.ext'; simp
    have hrun : (execOp a.eval o).run P w = (callFunc g (c.args.map a.eval ++ cs.toArray)).run P w := by
      simp [execOp, hop, resolve, hc, hf, Deferred.ofValue, invoke]
    rw [hargs] at hinv
    unfold Oper.wp
    rw [hrun]
    rcases hinv with ⟨he, hcalls⟩ | ⟨u, w', hu, hR⟩
    · rw [he, Oper.upon_enter]
      refine Calls.mono hcalls fun e w' hh => ?_
      cases e with
      | returned u => exact hpost u w' hh
      | panicked c => exact hh.elim
      | outgrown => exact hh.elim
    · rw [hu]
      exact hpost u w' hR
  · cases hr

theorem rptrOf_eq {v : AVal} {cs : List AVal} (h : rptrOf v = some cs) : v = .rptr cs := by
  cases v <;> simp [rptrOf] at h
  rw [h]

/-- One operation, whichever. -/
theorem stepA_ok (hT : TysOK P cx) (hE : EqOK P cx) {O : Oracle} (hO : OracleOK P O) (h : RSx B s a.tmps w) (ms : List Nat) (K : KV) : StepOK' P B o a w (stepA cx O o ms s K) K := by
  unfold stepA
  split
  · rename_i x hop; exact StepOK.to' (StepOKp.p (step_move h x hop _ _ K))
  · rename_i x hop; exact StepOK.to' (StepOKp.p (step_assign h x hop _ _ K))
  · rename_i c x y hop; exact StepOK.to' (StepOKp.p (step_pick h c x y hop _ K))
  · rename_i t hop; exact StepOK.to' (step_alloc hT h t hop K)
  · rename_i t x hop; exact StepOK.to' (step_box hT h t x hop _ _ K)
  · rename_i t parts hop; exact StepOK.to' (step_build hT h t parts hop ms K)
  · rename_i t n parts hop; exact StepOK.to' (step_buildSlice hT h t n parts hop ms K)
  · rename_i t x hop
    intro r hr
    split at hr
    · rename_i d hd
      rcases loadN_0 hr with hr | hr
      · exact StepOK.to' (step_load hT h t x hop _ K) r (by rw [hd]; exact hr)
      · exact StepOK.to' (step_load hT h t x hop 0 K) r (by rw [hd]; exact hr)
    · cases hr
  · rename_i t ad x hop; exact StepOK.to' (step_store hT h t ad x hop _ K)
  · rename_i x hop; exact StepOK.to' (StepOKp.p (step_nilCheck h x hop K))
  · rename_i op t x y yt hop; exact StepOK.to' (StepOKp.p (step_binOp hT hE h op t x y yt hop K))
  · rename_i op t x hop; exact StepOK.to' (StepOKp.p (step_unOp h op t x hop K))
  · rename_i src t x hop
    split
    · exact StepOK.to' StepOK.none
    · rename_i ds hds
      split
      · rename_i d hd
        by_cases hk : ∃ e, d.k = .slice e (.ints .u8)
        · obtain ⟨e, hk⟩ := hk
          have := step_bytes (P := P) (o := o) hT h src t x hop ds d hds hd hk K
          rw [hk]
          exact StepOK.to' this
        · exact StepOK.to' (step_convert hT h src t x hop ds d hds hd K (fun e he => hk ⟨e, he⟩))
      · exact StepOK.to' StepOK.none
  · rename_i t x lo hi hop
    split
    · rename_i cs hcs
      exact StepOK.to' (StepOKp.p (step_sliceRA hT h t x lo hi hop (rptrOf_eq hcs) K))
    · split
      · rename_i b off hbo
        exact StepOK.to' (StepOKp.p (step_sliceVA hT h t x lo hi hop (ptrOf_eq hbo) K))
      · exact StepOK.to' (StepOKp.p (step_slice hT h t x lo hi hop _ K))
  · rename_i t x f hop; exact StepOK.to' (StepOKp.p (step_fieldAddr hT h t x f hop K))
  · rename_i t x i hop
    split
    · rename_i k n hn
      split
      · rename_i cs hcs
        exact StepOK.to' (StepOKp.p (step_indexRP hT hE.2 h t x i hop hn hcs K))
      · exact StepOK.to' (StepOKp.p (step_indexA hT h t x i hop hn K))
    · exact StepOK.to' StepOK.none
  · rename_i t x i hop
    split
    · rename_i k n hn; exact StepOK.to' (StepOKp.p (step_index hT h t x i hop hn K))
    · exact StepOK.to' StepOK.none
  · rename_i x i hop
    have := StepOKp.p (step_extract (P := P) h x i hop K)
    refine StepOK.to' ?_
    cases x <;> exact this
  · rename_i t l c hop; exact StepOK.to' (step_makeSlice hT h t l c hop K)
  · rename_i c hop
    split
    · rename_i b hc
      unfold builtinA
      split
      · split
        · rename_i x hx
          split
          · rename_i t ts hts
            exact StepOK.to' (StepOKp.p (step_len hT h t ts x c hop hc (by apply Array.ext'; rw [hx]) hts K))
          · exact StepOK.to' StepOK.none
        · exact StepOK.to' StepOK.none
      · split
        · rename_i x y hx
          split
          · rename_i t u hts
            exact StepOK.to' (step_append hT h t u x y c hop hc hx hts K)
          · exact StepOK.to' StepOK.none
        · exact StepOK.to' StepOK.none
      · exact StepOK.to' (StepOKp.p (step_min h c hop hc K))
      · exact StepOK.to' (StepOKp.p (step_max h c hop hc K))
      · exact StepOK.to' StepOK.none
    · rename_i f hc; exact step_call hO h c hop f hc ms K
    · exact StepOK.to' StepOK.none
  · exact StepOK.to' StepOK.none

end
end Go.Proofs.YtognccpmaljamaaGreatDoor.Sa

/- AS, part S19: regions in their order, code, functions, calls by code. -/
namespace Go.Proofs.YtognccpmaljamaaGreatDoor.Sa
open Go
variable [GlobMem]

section
variable {P : Program} {cx : Cx} {B : Base} {a : Act} {w : World} {s : S}

theorem Act.put_tmps (a : Act) (dst : Option Tmp) (v : Value) : (a.put dst v).tmps = (match dst with | some d => a.tmps.setIfInBounds d v | none => a.tmps) := by cases dst <;> rfl
theorem Act.put_def (a : Act) (dst : Option Tmp) (v : Value) : (a.put dst v).defers = a.defers := by cases dst <;> rfl

theorem RF.put {v : AVal} {v' : Value} (h : RF B s a.tmps w v v') (dst : Option Tmp) : RSx B (s.put dst v) (a.put dst v').tmps w := by
  obtain ⟨Own, ρ, M, h, hf⟩ := h
  rw [Act.put_tmps]
  cases dst with
  | none => exact ⟨Own, ρ, M, h⟩
  | some d => obtain ⟨O', h'⟩ := h.put hf d; exact ⟨O', ρ, M, h'⟩

theorem RSx.retold (h : RSx B s a.tmps w) {t : Nat} {b : Bool} (ht : lget s.env t = .bool b) : RSx B (s.set t (.bool b)) a.tmps w := by
  obtain ⟨Own, ρ, M, hs⟩ := h
  have hg : s.env[t]? = some (.bool b) := by
    rw [lget_eq, List.getD] at ht
    cases hx : s.env[t]? with
    | none => simp [hx] at ht
    | some y => simp [hx] at ht; rw [ht]
  have hlt : t < a.tmps.size := by rw [hs.len]; exact (List.getElem?_eq_some_iff.1 hg).1
  have hv := hs.env t _ _ hg (Array.getElem?_eq_getElem hlt)
  simp only [SlotOK, Hold, AVal.uniq, V] at hv
  obtain ⟨O', h'⟩ := hs.put (a := .bool b) (v := .bool b) (by simp only [SlotOK, Hold, AVal.uniq, V]) t
  have e : a.tmps.setIfInBounds t (.bool b) = a.tmps := by
    apply Array.ext_getElem?
    intro i
    rw [Array.getElem?_setIfInBounds]
    split
    · rename_i e; subst e; simp [Array.getElem?_eq_getElem hlt, hv]
    · rfl
  rw [e] at h'
  exact ⟨O', ρ, M, h'⟩

theorem RSx.slotBool (h : RSx B s a.tmps w) {t : Nat} {b : Bool} (ht : lget s.env t = .bool b) : a.tmps[t]? = some (.bool b) := by
  obtain ⟨Own, ρ, M, hs⟩ := h
  have hg : s.env[t]? = some (.bool b) := by
    rw [lget_eq, List.getD] at ht
    cases hx : s.env[t]? with
    | none => simp [hx] at ht
    | some y => simp [hx] at ht; rw [ht]
  have hlt : t < a.tmps.size := by rw [hs.len]; exact (List.getElem?_eq_some_iff.1 hg).1
  have hv := hs.env t _ _ hg (Array.getElem?_eq_getElem hlt)
  simp only [SlotOK, Hold, AVal.uniq, V] at hv
  rw [Array.getElem?_eq_getElem hlt, hv]

theorem RSx.slotTup (h : RSx B s a.tmps w) {t : Nat} (ht : lget s.env t = .tup []) : a.tmps[t]? = some (.tuple #[]) := by
  obtain ⟨Own, ρ, M, hs⟩ := h
  have hg : s.env[t]? = some (.tup []) := by
    rw [lget_eq, List.getD] at ht
    cases hx : s.env[t]? with
    | none => simp [hx] at ht
    | some y => simp [hx] at ht; rw [ht]
  have hlt : t < a.tmps.size := by rw [hs.len]; exact (List.getElem?_eq_some_iff.1 hg).1
  have hv := hs.env t _ _ hg (Array.getElem?_eq_getElem hlt)
  simp only [SlotOK, Hold] at hv
  obtain ⟨vs, hv, hl⟩ := hv
  have : vs = [] := by cases vs with | nil => rfl | cons v vs => simp [HoldL] at hl
  subst this
  rw [Array.getElem?_eq_getElem hlt, hv]

theorem RSx.skip (h : RSx B s a.tmps w) (dst : Option Tmp) : RSx B (s.put dst (.tup [])) (a.put dst undef).tmps w := by
  obtain ⟨Own, ρ, M, hs⟩ := h
  refine RF.put ⟨Own, ρ, M, hs, ?_⟩ dst
  simp only [SlotOK, Hold]
  exact ⟨[], rfl, by simp only [HoldL]⟩

/-- One operation of a region. -/
theorem op1_ok (hT : TysOK P cx) (hE : EqOK P cx) {O : Oracle} (hO : OracleOK P O) {ops : Array Oper} {o : Oper} {m : List Nat} {K : S → Option Res} {r : Res} (h : RSx B s a.tmps w) (hd : a.defers = []) (hr : op1A cx O ops o m s K = some r)
    (Q : Exit → Act → World → Prop) (next : Act → World → Prop) (hn : ∀ s' a' w', K s' = some r → RSx B s' a'.tmps w' → a'.defers = [] → next a' w') :
    if Region.wanted o (yielded ops a.tmps) = true then o.wp P a w next Q else next (a.put o.dst undef) w := by
  unfold op1A at hr
  have run : ∀ s, RSx B s a.tmps w → (stepA cx O o m s fun v s => K (s.put o.dst v)) = some r → o.wp P a w next Q := by
    intro s hs hr
    exact stepA_ok hT hE hO hs m _ r hr next Q fun v s' v' w' hK hf => hn _ _ _ hK (hf.put o.dst) (by rw [Act.put_def]; exact hd)
  split at hr
  · rename_i hg
    rw [if_pos (by simp [Region.wanted, hg])]
    exact run s h hr
  · rename_i j want hg
    split at hr
    · cases hr
    · rename_i t ht
      have hy : ∀ b, a.tmps[t]? = some (.bool b) → yielded ops a.tmps j = some b := fun b hb => by simp [yielded, ht, hb]
      split at hr
      · rename_i b hb
        have hyb := hy b (h.slotBool hb)
        have h' := h.retold hb
        have hw : Region.wanted o (yielded ops a.tmps) = (b == want) := by simp only [Region.wanted, hg, hyb]; cases b <;> cases want <;> rfl
        rw [hw]
        cases b
        · cases want
          · simp only at hr; simp; exact run _ h' hr
          · simp only at hr; simp; exact hn _ _ _ hr (h'.skip o.dst) (by rw [Act.put_def]; exact hd)
        · cases want
          · simp only at hr; simp; exact hn _ _ _ hr (h'.skip o.dst) (by rw [Act.put_def]; exact hd)
          · simp only at hr; simp; exact run _ h' hr
      · rename_i hb
        have hyn : yielded ops a.tmps j = none := by simp [yielded, ht, h.slotTup hb]
        rw [if_neg (by simp [Region.wanted, hg, hyn])]
        exact hn _ _ _ hr (h.skip o.dst) (by rw [Act.put_def]; exact hd)
      · cases hr

theorem ops_ok (hT : TysOK P cx) (hE : EqOK P cx) {O : Oracle} (hO : OracleOK P O) (ops : Array Oper) (Q : Exit → Act → World → Prop) (r : Res) (K : S → Option Res) (hn : ∀ s' a' w', K s' = some r → RSx B s' a'.tmps w' → a'.defers = [] → Q .normal a' w') :
    ∀ (rest : List Oper) (k : Nat) (ms : List (List Nat)) (s : S) (a : Act) (w : World), ops.toList.drop k = rest → RSx B s a.tmps w → a.defers = [] → opsA cx O ops rest ms s K = some r → wpOps P ops Q (List.range' k rest.length) a w
  | [], k, ms, s, a, w, hk, h, hd, hr => by
    simp only [opsA] at hr
    simpa [wpOps] using hn s a w hr h hd
  | o :: rest, k, ms, s, a, w, hk, h, hd, hr => by
    have hko : ops[k]? = some o := by
      have : (ops.toList.drop k)[0]? = some o := by rw [hk]; rfl
      simpa using this
    have hk' : ops.toList.drop (k + 1) = rest := by rw [← List.drop_drop, hk]; rfl
    simp only [opsA] at hr
    have := op1_ok hT hE hO h hd hr Q (wpOps P ops Q (List.range' (k + 1) rest.length)) (fun s' a' w' hK h' hd' => ops_ok hT hE hO ops Q r K hn rest (k + 1) ms.tail s' a' w' hk' h' hd' hK)
    rw [List.length_cons, List.range'_succ, wpOps]
    simp only [hko]
    split
    · rename_i hw; rw [if_pos hw] at this; exact .inl this
    · rename_i hw; rw [if_neg hw] at this; exact this

noncomputable def exitOf : Out → Exit
  | .normal => .normal
  | .exit id => .exit id
  | .ret => .ret

/-- What execA comes to is sound. -/
noncomputable def ExecOK (P : Program) (B : Base) (c : Code) (s : S) (K : Out → S → Option Res) (x : Option Res) : Prop :=
  ∀ (r : Res) (a : Act) (w : World), x = some r → RSx B s a.tmps w → a.defers = [] → ∀ Q : Exit → Act → World → Prop, (∀ out s' a' w', K out s' = some r → RSx B s' a'.tmps w' → a'.defers = [] → Q (exitOf out) a' w') → c.wp P Q a w

/-- Regions whose order is drawn (see S22). -/
noncomputable def DregOK (P : Program) (cx : Cx) (O : Oracle) : Prop := ∀ (B : Base) (n : Nat) (hs : List Nat) (plan : DPlan) (ms : List (List Nat)) (id : Nat) (ops : Array Oper) (s : S) (K : Out → S → Option Res),
  ExecOK P B (.region id ops true) s K (execA cx O n (.dreg hs plan ms) (.region id ops true) s K)

theorem keepV_cases (l : List Nat) (v : AVal) : keepV l v = v ∧ (∀ u, v.ref? = some u → l.any (Nat.beq u) = true) ∨ keepV l v = .undef := by
  cases v <;> simp [keepV, AVal.ref?]
  · rename_i u i
    by_cases h : l.any (Nat.beq u) = true
    · left; rw [h]; simpa using h
    · right; rw [Bool.not_eq_true] at h; rw [h]
  · rename_i u
    by_cases h : l.any (Nat.beq u) = true
    · left; rw [h]; simpa using h
    · right; rw [Bool.not_eq_true] at h; rw [h]

theorem keepL_get (l : List Nat) : ∀ (env : List AVal) (i t : Nat), (keepL l i env)[t]? = (env[t]?).map fun v => match l.any (Nat.beq (i + t)) with | true => keepV l v | false => .undef
  | [], i, t => by simp [keepL]
  | v :: env, i, 0 => by
    simp only [keepL, List.getElem?_cons_zero, Option.map_some, Nat.add_zero]
    cases l.any (Nat.beq i) <;> rfl
  | v :: env, i, t + 1 => by
    simp only [keepL, List.getElem?_cons_succ, keepL_get l env (i + 1) t]
    rw [show i + 1 + t = i + (t + 1) by omega]

theorem keepL_length (l : List Nat) : ∀ (env : List AVal) (i : Nat), (keepL l i env).length = env.length
  | [], _ => rfl
  | v :: env, i => by simp [keepL, keepL_length l env]

theorem RSx.keep (h : RSx B s a.tmps w) (l : List Nat) : RSx B { s with env := keepL l 0 s.env } a.tmps w := by
  obtain ⟨Own, ρ, M, h⟩ := h
  refine ⟨Own, ρ, M, h.wi, h.fr, h.mle, h.glob, h.ext, h.own0, h.mnew, by rw [keepL_length]; exact h.len, fun t x v hx hv => ?_, h.hlen, h.heap⟩
  rw [keepL_get, Option.map_eq_some_iff] at hx
  obtain ⟨y, hy, rfl⟩ := hx
  have hk := h.env t y v hy hv
  cases hin : l.any (Nat.beq (0 + t)) with
  | false => simp only; exact SlotOK_undef
  | true =>
    simp only
    rcases keepV_cases l y with ⟨e, hr⟩ | e
    · rw [e]
      refine hk.move (Ext.refl _) (MLe.refl _) (fun g p hg => ⟨hg, rfl⟩) (fun u b hu hb hbu => ⟨b, ?_, hbu, rfl⟩)
      rw [keepL_get, hb]
      have := hr u hu
      rw [Nat.zero_add]
      simp only [Option.map_some, this]
      cases b <;> simp_all [AVal.uniq, keepV]
    · rw [e]; exact SlotOK_undef

theorem RSx.condSet (h : RSx B s a.tmps w) (b : Operand) {t : Bool} (ht : s.rdo none b = .bool t) : RSx B (match (generalizing := false) b with | .tmp i => s.set i (.bool t) | _ => s) a.tmps w := by
  cases b with
  | tmp i => exact h.retold (by simpa [S.rdo] using ht)
  | _ => exact h

theorem exec_ok (hT : TysOK P cx) (hE : EqOK P cx) {O : Oracle} (hO : OracleOK P O) (hD : DregOK P cx O) (n : Nat) : ∀ (ac : AC) (c : Code) (s : S) (K : Out → S → Option Res), ExecOK P B c s K (execA cx O n ac c s K)
  | .skip, c, s, K => by
    cases c with
    | skip => intro r a w hr h hd Q hQ; simp only [execA] at hr; exact wp_skip (hQ .normal s a w hr h hd)
    | _ => intro r a w hr; simp [execA] at hr
  | .reg ms, c, s, K => by
    cases c with
    | region id ops d =>
      cases d with
      | false =>
        intro r a w hr h hd Q hQ
        simp only [execA] at hr
        have := ops_ok hT hE hO ops Q r _ (fun s' a' w' hK h' hd' => hQ .normal s' a' w' hK h' hd') ops.toList 0 ms s a w rfl h hd hr
        refine wp_region ?_
        simpa [List.range_eq_range'] using this
      | true => intro r a w hr; simp [execA] at hr
    | _ => intro r a w hr; simp [execA] at hr
  | .dreg hs plan ms, c, s, K => by
    cases c with
    | region id ops d =>
      cases d with
      | true => exact hD B n hs plan ms id ops s K
      | false => intro r a w hr; simp [execA] at hr
    | _ => intro r a w hr; simp [execA] at hr
  | .seq x y, c, s, K => by
    cases c with
    | seq c d =>
      intro r a w hr h hd Q hQ
      simp only [execA] at hr
      refine wp_seq (exec_ok hT hE hO hD n x c s _ r a w hr h hd _ fun out s' a' w' hK h' hd' => ?_)
      cases out with
      | normal => exact exec_ok hT hE hO hD n y d s' K r a' w' hK h' hd' Q hQ
      | exit id => exact hQ _ _ _ _ hK h' hd'
      | ret => exact hQ _ _ _ _ hK h' hd'
    | _ => intro r a w hr; simp [execA] at hr
  | .cond x y, c, s, K => by
    cases c with
    | cond b c d =>
      intro r a w hr h hd Q hQ
      simp only [execA] at hr
      split at hr
      · rename_i t ht
        have hb := rdo_bool h ht
        have h' := h.condSet b ht
        cases t
        · exact wp_cond_false hb (exec_ok hT hE hO hD n y d _ K r a w hr h' hd Q hQ)
        · exact wp_cond_true hb (exec_ok hT hE hO hD n x c _ K r a w hr h' hd Q hQ)
      · cases hr
    | _ => intro r a w hr; simp [execA] at hr
  | .block x, c, s, K => by
    cases c with
    | block id c =>
      intro r a w hr h hd Q hQ
      simp only [execA] at hr
      refine wp_block (exec_ok hT hE hO hD n x c s _ r a w hr h hd _ fun out s' a' w' hK h' hd' => ?_)
      cases out with
      | normal => exact hQ _ _ _ _ hK h' hd'
      | ret => exact hQ _ _ _ _ hK h' hd'
      | exit i =>
        simp only [exitOf, Exit.inBlock]
        replace hK : (match Nat.beq i id with | true => K .normal s' | false => K (.exit i) s') = some r := hK
        split at hK
        · rename_i e
          rw [if_pos (Nat.eq_of_beq_eq_true e)]
          exact hQ _ _ _ _ hK h' hd'
        · rename_i e
          rw [if_neg (Nat.ne_of_beq_eq_false e)]
          exact hQ _ _ _ _ hK h' hd'
    | _ => intro r a w hr; simp [execA] at hr
  | .loop x, c, s, K => by
    cases c with
    | loop c =>
      intro r a w hr h hd Q hQ
      simp only [execA] at hr
      have body : ∀ s K, ExecOK P B c s K (execA cx O n x c s K) := fun s K => exec_ok hT hE hO hD n x c s K
      have key : ∀ (m : Nat) (s : S) (a : Act) (w : World), aloop (execA cx O n x c) m s K = some r → RSx B s a.tmps w → a.defers = [] → Code.rounds P c Q m a w := by
        intro m
        induction m with
        | zero => intro s a w hr; simp [aloop] at hr
        | succ m ih =>
          intro s a w hr h hd
          rw [rounds_succ]
          simp only [aloop] at hr
          refine body s _ r a w hr h hd _ fun out s' a' w' hK h' hd' => ?_
          cases out with
          | normal => exact ih s' a' w' hK h' hd'
          | exit id => exact hQ _ _ _ _ hK h' hd'
          | ret => exact hQ _ _ _ _ hK h' hd'
      exact wp_loop_rounds n (key n s a w hr h hd)
    | _ => intro r a w hr; simp [execA] at hr
  | .loopk l x, c, s, K => by
    cases c with
    | loop c =>
      intro r a w hr h hd Q hQ
      simp only [execA] at hr
      have body : ∀ s K, ExecOK P B c s K (execA cx O n x c s K) := fun s K => exec_ok hT hE hO hD n x c s K
      have key : ∀ (m : Nat) (s : S) (a : Act) (w : World), aloop (fun s K => execA cx O n x c s (roundK l K)) m s K = some r → RSx B s a.tmps w → a.defers = [] → Code.rounds P c Q m a w := by
        intro m
        induction m with
        | zero => intro s a w hr; simp [aloop] at hr
        | succ m ih =>
          intro s a w hr h hd
          rw [rounds_succ]
          simp only [aloop] at hr
          refine body s _ r a w hr h hd _ fun out s' a' w' hK h' hd' => ?_
          cases out with
          | normal => exact ih _ a' w' hK (h'.keep l) hd'
          | exit id => exact hQ _ _ _ _ hK h' hd'
          | ret => exact hQ _ _ _ _ hK h' hd'
      exact wp_loop_rounds n (key n _ a w hr (h.keep l) hd)
    | _ => intro r a w hr; simp [execA] at hr
  | .ret, c, s, K => by
    cases c with
    | ret => intro r a w hr h hd Q hQ; simp only [execA] at hr; exact wp_ret (hQ .ret s a w hr h hd)
    | _ => intro r a w hr; simp [execA] at hr
  | .exit, c, s, K => by
    cases c with
    | exit id => intro r a w hr h hd Q hQ; simp only [execA] at hr; exact wp_exit (hQ (.exit id) s a w hr h hd)
    | _ => intro r a w hr; simp [execA] at hr
  | .keep l x, c, s, K => by
    intro r a w hr h hd Q hQ
    rw [execA] at hr
    exact exec_ok hT hE hO hD n x c _ K r a w hr (h.keep l) hd Q hQ
  | .frz ts x, c, s, K => by
    intro r a w hr h hd Q hQ
    rw [execA] at hr
    obtain ⟨Own, ρ, M, hs⟩ := h
    obtain ⟨O', M', h'⟩ := hs.fzSlots ts
    exact exec_ok hT hE hO hD n x c _ K r a w hr ⟨O', ρ, M', h'⟩ hd Q hQ

end
end Go.Proofs.YtognccpmaljamaaGreatDoor.Sa

/- AS, part S20: functions; calls by code. -/
namespace Go.Proofs.YtognccpmaljamaaGreatDoor.Sa
open Go
variable [GlobMem]

theorem Hold_ref {Own : Owner} {w : World} {ρ : List Nat} {M : Mem} {ℓ : List Nat → Loc} {v : AVal} {u : Value} (h : Hold Own w ρ M ℓ v u) : v.ref? = none := by
  cases v <;> simp_all [AVal.ref?, Hold, AVal.uniq, V]

section
variable {P : Program} {cx : Cx} {B : Base} {tm : Array Value} {w : World}

/-- One more among what is under way. -/
theorem hold_snoc {s : S} {Own O1 : Owner} {ρ : List Nat} {M : Mem} {acc : List AVal} {accv : List Value} {v : AVal} {u : Value} (h1 : RS B s tm w O1 ρ M) (ha : HoldL Own w ρ M (.fly 1) 0 acc accv) (hf : Hold O1 w ρ M (.fly 0) v u)
    (hkeep : ∀ g k p, k ≠ 0 → Own g = some (.fly k p) → O1 g = some (.fly k p)) : RS B s tm w (O1.mv (argTo acc.length)) ρ M ∧ HoldL (O1.mv (argTo acc.length)) w ρ M (.fly 1) 0 (acc ++ [v]) (accv ++ [u]) := by
  have hlen := HoldL_len ha
  refine ⟨h1.mv (argTo acc.length) (fun _ _ => rfl) (fun _ => rfl) (fun _ _ => rfl), ?_⟩
  rw [HoldL_iff] at ha ⊢
  refine ⟨by simp [hlen], fun j b x hb hx => ?_⟩
  rw [List.getElem?_append] at hb hx
  by_cases hj : j < acc.length
  · rw [if_pos hj] at hb
    rw [if_pos (by omega)] at hx
    refine Hold_move (Ext.refl _) (MLe.refl _) b x _ _ (fun g p hg => ⟨?_, rfl⟩) (ha.2 j b x hb hx)
    have := hkeep g 1 _ (by decide) hg
    have hne : j ≠ acc.length := by omega
    simp [Owner.mv, this, argTo, hne]
  · rw [if_neg hj] at hb
    rw [if_neg (by omega)] at hx
    have ej : j = acc.length := by
      have := (List.getElem?_eq_some_iff.1 hb).1
      simp at this; omega
    subst ej
    simp at hb
    rw [hlen] at hx
    simp at hx
    subst hb hx
    exact Hold_move (Ext.refl _) (MLe.refl _) v _ _ _ (fun g p hg => ⟨by simp [Owner.mv, hg, argTo], rfl⟩) hf

/-- One result. -/
noncomputable def result1 (tm : Array Value) : ResultVar → Sem Value
  | .tmp t => pure (tm.getD t undef)
  | .cell a t => do loadVar t (← asAddr (tm.getD a undef))

theorem results_ok (hT : TysOK P cx) : ∀ (rs : List ResultVar) (s : S) (K : List AVal → S → Option Res) (r : Res) (Own : Owner) (ρ : List Nat) (M : Mem) (acc : List AVal) (accv : List Value), RS B s tm w Own ρ M → HoldL Own w ρ M (.fly 1) 0 acc accv →
    resultsA cx rs s K = some r → ∃ vs us s' Own', K vs s' = some r ∧ (rs.mapM (result1 tm)).run P w = .ok us w ∧ RS B s' tm w Own' ρ M ∧ HoldL Own' w ρ M (.fly 1) 0 (acc ++ vs) (accv ++ us)
  | [], s, K, r, Own, ρ, M, acc, accv, h, ha, hr => ⟨[], [], s, Own, hr, by simp, h, by simpa using ha⟩
  | .tmp t :: rs, s, K, r, Own, ρ, M, acc, accv, h, ha, hr => by
    unfold resultsA at hr
    split at hr
    · cases hr
    · rename_i href
      have hr0 := notRef href
      have taken : ∃ O1, RS B (s.set t .undef) tm w O1 ρ M ∧ Hold O1 w ρ M (.fly 0) (lget s.env t) (tm.getD t undef) ∧ ∀ g k p, k ≠ 0 → Own g = some (.fly k p) → O1 g = some (.fly k p) := by
        cases hx : s.env[t]? with
        | none => exact ⟨Own, h.forget t, by simp [List.getD, hx, Hold, AVal.uniq, V], fun _ _ _ _ h => h⟩
        | some b =>
          have hlt : t < tm.size := by rw [h.len]; exact (List.getElem?_eq_some_iff.1 hx).1
          obtain ⟨O1, h1, hf, hk⟩ := h.take' hx (Array.getElem?_eq_getElem hlt)
          rw [lget_of hx] at hr0 ⊢
          rw [SlotOK_plain hr0] at hf
          refine ⟨O1, h1, ?_, fun g k p _ hg => hk g k p hg⟩
          simpa [Array.getD, hlt] using hf
      obtain ⟨O1, h1, hf, hk⟩ := taken
      obtain ⟨h2, hacc⟩ := hold_snoc h1 ha hf hk
      obtain ⟨vs, us, s', O', hK, hrun, h', hH⟩ := results_ok hT rs _ _ r _ ρ M _ _ h2 hacc hr
      refine ⟨_ :: vs, tm.getD t undef :: us, s', O', hK, ?_, h', by simpa using hH⟩
      rw [List.mapM_cons]
      simp [result1, hrun]
  | .cell c t :: rs, s, K, r, Own, ρ, M, acc, accv, h, ha, hr => by
    unfold resultsA at hr
    split at hr
    · rename_i d hd
      have hty := hT t d hd
      split at hr
      · rename_i b off hb
        split at hr
        · cases hr
        · cases hr
        · rename_i cs hne hcs
          split at hr
          · cases hr
          · rename_i v hl
            obtain ⟨g, us, hg, hul, hus, hH, hin, hag, hna, _⟩ := peek (h.heap b cs hcs hne) hl hty.one
            have hv : tm.getD c undef = .pointer (some ⟨g, off, none⟩) := by
              have hx : s.env[c]? = some (.ptr b off) := by
                rw [lget_eq, List.getD] at hb
                cases hx : s.env[c]? with
                | none => simp [hx] at hb
                | some y => simp [hx] at hb; rw [hb]
              have hlt : c < tm.size := by rw [h.len]; exact (List.getElem?_eq_some_iff.1 hx).1
              have := h.env c _ _ hx (Array.getElem?_eq_getElem hlt)
              simp only [SlotOK, Hold, AVal.uniq, V] at this
              obtain ⟨g', hg', hv⟩ := this
              rw [hg] at hg'; cases hg'
              simpa [Array.getD, hlt] using hv
            obtain ⟨O1, h1, hf, hk⟩ := h.getBlk' hcs hne hH hin hna
            obtain ⟨h2, hacc⟩ := hold_snoc h1 ha hf (fun g k p _ hg => hk g k p hg)
            obtain ⟨vs, us', s', O', hK, hrun, h', hH'⟩ := results_ok hT rs _ _ r _ ρ M _ _ h2 hacc hr
            refine ⟨_ :: vs, valOf d us :: us', s', O', hK, ?_, h', by simpa using hH'⟩
            have hld := run_loadAt_cells (P := P) (w := w) hty g off us hul hus
            have hlv : (loadVar t ⟨g, off, none⟩).run P w = .ok (valOf d us) w := by simpa [Instr.loadAt, Instr.sureAddr] using hld
            rw [List.mapM_cons]
            simp [result1, hv, asAddr, hlv, hrun]
      · cases hr
    · cases hr

theorem single_hold {Own : Owner} {s : S} {ρ : List Nat} {M : Mem} (h : RS B s tm w Own ρ M) {vs : List AVal} {us : List Value} (hH : HoldL Own w ρ M (.fly 1) 0 vs us) :
    ∃ O', RS B s tm w O' ρ M ∧ Hold O' w ρ M (.fly 0) (single vs) (if h : us.toArray.size = 1 then us.toArray[0] else .tuple us.toArray) := by
  have hlen := HoldL_len hH
  by_cases h1 : us.length = 1
  · obtain ⟨v, rfl⟩ : ∃ v, vs = [v] := by
      match vs, hlen with
      | [v], _ => exact ⟨v, rfl⟩
      | [], hl => simp at hl; omega
      | _ :: _ :: _, hl => simp at hl; omega
    obtain ⟨u, rfl⟩ : ∃ u, us = [u] := by
      match us, h1 with
      | [u], _ => exact ⟨u, rfl⟩
    simp only [HoldL] at hH
    refine ⟨Own.mv (fun | .fly 1 (0 :: p) => .fly 0 p | .fly 0 _ => .fly 7 [] | q => q), h.mv _ (fun _ _ => rfl) (fun _ => rfl) (fun _ _ => rfl), ?_⟩
    simp only [single, List.size_toArray, List.length_cons, List.length_nil, Nat.zero_add, dite_true]
    exact Hold_move (Ext.refl _) (MLe.refl _) v u _ _ (fun g p hg => ⟨by simp [Owner.mv, hg], rfl⟩) hH.1
  · have e : single vs = .tup vs := by
      match vs, hlen with
      | [v], hl => simp at hl; omega
      | [], _ => rfl
      | _ :: _ :: _, _ => rfl
    rw [e, dif_neg (by simpa using h1)]
    refine ⟨Own.mv (fun | .fly 1 p => .fly 0 p | .fly 0 _ => .fly 7 [] | q => q), h.mv _ (fun _ _ => rfl) (fun _ => rfl) (fun _ _ => rfl), ?_⟩
    simp only [Hold]
    refine ⟨us, rfl, ?_⟩
    rw [HoldL_iff] at hH ⊢
    exact ⟨hH.1, fun j b x hb hx => Hold_move (Ext.refl _) (MLe.refl _) b x _ _ (fun g p hg => ⟨by simp [Owner.mv, hg], rfl⟩) (hH.2 j b x hb hx)⟩

theorem allLt_ok {n : Nat} : ∀ {l : List Nat}, allLt n l = true → ∀ b, b ∈ l → b < n
  | [], _, b, hb => by cases hb
  | x :: l, h, b, hb => by
    unfold allLt at h
    split at h
    · rename_i hx
      rcases List.mem_cons.1 hb with rfl | hb
      · simpa using hx
      · exact allLt_ok h b hb
    · cases h

/-- The blocks from n on let go. -/
theorem RS.cut {Own : Owner} {s : S} {ρ : List Nat} {M : Mem} (h : RS B s tm w Own ρ M) (n : Nat) (hn : n ≤ ρ.length) (hB : B.ρ.length ≤ n) (hp : ∀ b, b ∈ ptrsLL (s.heap.take n) → b < n) : RS B ⟨[], s.heap.take n⟩ #[] w Own (ρ.take n) M := by
  refine ⟨h.wi, h.fr, h.mle, h.glob, fun b g hb => ?_, h.own0, h.mnew, rfl, fun t a v ht => by simp at ht, by have := h.hlen; simp; omega, fun b cs hb hne => ?_⟩
  · have := (List.getElem?_eq_some_iff.1 hb).1
    rw [List.getElem?_take, if_pos (by omega)]; exact h.ext b g hb
  · dsimp only at hb
    have hbl : b < n := by have := (List.getElem?_eq_some_iff.1 hb).1; simp at this; omega
    have hptr : ∀ c, c ∈ ptrsL cs → c < n := fun c hc => hp c (ptrsLL_get hb c hc)
    have hb2 := hb
    rw [List.getElem?_take, if_pos hbl] at hb2
    have := BlkAt.ren (f := fun b => b) (ρ' := ρ.take n) (MLe.refl M) (fun c hc g hg => by rw [List.getElem?_take, if_pos (hptr c hc)]; exact hg) (b' := b) (fun g hg => by rw [List.getElem?_take, if_pos hbl]; exact hg) (fun g hg => ⟨hg, rfl⟩) (fun g o hg => ⟨hg, rfl⟩) (h.heap b cs hb2 hne)
    rwa [renL_id] at this

theorem RS.bare {Own : Owner} {s : S} {ρ : List Nat} {M : Mem} (h : RS B s tm w Own ρ M) : RS B ⟨[], s.heap⟩ #[] w Own ρ M :=
  ⟨h.wi, h.fr, h.mle, h.glob, h.ext, h.own0, h.mnew, rfl, fun t a v ht => by simp at ht, h.hlen, h.heap⟩

theorem end_ok (hT : TysOK P cx) {fn : Func} {Own0 : Owner} {w0 : World} {M0 : Mem} {ρ0 : List Nat} {s : S} {a : Act} {K : AVal → List (List AVal) → Option Res} {r : Res} (h : RSx (bs0 Own0 w0 M0 ρ0) s a.tmps w) (hr : endA cx fn.results.toList ρ0.length K s = some r) :
    ∃ u, (results fn a.tmps).run P w = .ok u w ∧ ∃ v h' Own' ρ' M', K v h' = some r ∧ RS (bs0 Own0 w0 M0 ρ0) ⟨[], h'⟩ #[] w Own' ρ' M' ∧ Hold Own' w ρ' M' (.fly 0) v u := by
  obtain ⟨Own, ρ, M, hs⟩ := h
  unfold endA at hr
  obtain ⟨vs, us, s', O1, hK, hrun, h1, hH⟩ := results_ok hT fn.results.toList s _ r Own ρ M [] [] hs (by simp only [HoldL]) hr
  simp only [List.nil_append] at hH
  obtain ⟨O2, h2, hv⟩ := single_hold h1 hH
  refine ⟨if h : us.toArray.size = 1 then us.toArray[0] else .tuple us.toArray, ?_, ?_⟩
  · have e : (fn.results.mapM (result1 a.tmps)).run P w = .ok us.toArray w := by
      rw [Array.mapM_eq_mapM_toList]
      simp [hrun]
    have e2 : results fn a.tmps = (do
        let vs ← fn.results.mapM (result1 a.tmps)
        pure (if h : vs.size = 1 then vs[0] else .tuple vs)) := by
      unfold results
      congr 1
    rw [e2]
    simp [e]
  · split at hK
    · rename_i hc
      simp only [Bool.and_eq_true] at hc
      have hp1 := allLt_ok hc.1
      have hp2 := allLt_ok hc.2
      have hlen : ρ0.length ≤ ρ.length := by
        rcases Nat.eq_zero_or_pos ρ0.length with e | e
        · omega
        · have hlt : ρ0.length - 1 < ρ0.length := by omega
          have := h2.ext (ρ0.length - 1) _ (by show ρ0[ρ0.length - 1]? = _; exact List.getElem?_eq_getElem hlt)
          have := (List.getElem?_eq_some_iff.1 this).1
          omega
      refine ⟨_, _, O2, ρ.take ρ0.length, M, hK, h2.cut _ hlen (Nat.le_refl _) hp2, ?_⟩
      have := Hold_ren (f := fun b => b) (ρ' := ρ.take ρ0.length) (MLe.refl M) (single vs) _ (.fly 0) (.fly 0) (fun b hb g hg => by rw [List.getElem?_take, if_pos (hp1 b hb)]; exact hg) (fun g p hg => ⟨hg, rfl⟩) hv
      rwa [ren_id] at this
    · exact ⟨_, _, O2, ρ, M, hK, h2.bare, hv⟩

noncomputable def argIn : Loc → Loc
  | .fly 1 (i :: p) => .slot i p
  | .slot _ _ => .fly 7 []
  | q => q

theorem fun_ok (hT : TysOK P cx) (hE : EqOK P cx) (hD : ∀ O, OracleOK P O → DregOK P cx O) {O : Oracle} (hO : OracleOK P O) (n : Nat) (ac : AC) (f : FuncId) (fn : Func) (hf : P.funcs[f]? = some fn) (hnm : (fn.name == "runtime.NumGoroutine") = false) (args : List AVal) (heap : List (List AVal)) (K : AVal → List (List AVal) → Option Res) (r : Res)
    (hr : funA cx O n ac fn args heap K = some r) : CallOK P f args heap fun v h' => K v h' = some r := by
  unfold funA at hr
  split at hr
  · cases hr
  · rename_i c hb
    intro Own w ρ M xs hRS hH
    left
    constructor
    · have hfi : fn.body.isNone = false := by rw [hb]; rfl
      have hnm' : ¬ fn.name = "runtime.NumGoroutine" := by simpa using hnm
      have hfn : ¬ fn.body = none := by rw [hb]; simp
      simp [callFunc, hf, hnm', hfn]
    · have hlen := HoldL_len hH
      have hhl : ρ.length = heap.length := hRS.hlen
      refine calls_of_wp hf hb (exec_ok (B := bs0 Own w M ρ) hT hE hO (hD O hO) n ac c _ _ r { tmps := xs.toArray ++ Array.replicate (fn.ntmps - xs.toArray.size) undef, defers := [] } w hr ?_ rfl _ fun out s' a' w' hK h' hd' => ?_)
      · -- the slots at the beginning
        refine ⟨Own.mv argIn, ρ, M, hRS.wi.mv, Fr.refl _ _, MLe.refl _, hRS.glob, Ext.refl _, fun g ℓ hg => ?_, fun g o c hc => .inl hc, ?_, fun t x v hx hv => ?_, hRS.hlen, fun b cs hb hne => ?_⟩
        · obtain ⟨q, hq, _⟩ := Owner.mv_some hg
          left; rw [bs0]; simp [hq]
        · simp [hlen]
        · dsimp only at hx
          rw [List.getElem?_append] at hx
          split at hx
          · rename_i ht
            rw [Array.getElem?_append, if_pos (by simp; omega)] at hv
            have := ((HoldL_iff _ _ _).1 hH).2 t x v hx (by simpa using hv)
            rw [SlotOK_plain (Hold_ref this)]
            exact Hold_move (Ext.refl _) (MLe.refl _) x v _ _ (fun g p hg => ⟨by simp only [Owner.mv, hg, Nat.zero_add, Option.map_some, argIn], rfl⟩) this
          · have : x = .undef := by
              rw [List.getElem?_replicate] at hx
              split at hx
              · exact (Option.some.inj hx).symm
              · cases hx
            subst this
            exact SlotOK_undef
        · exact (hRS.heap b cs hb hne).move (Ext.refl _) (MLe.refl _) (fun g hg => ⟨by simp [Owner.mv, hg, argIn], rfl⟩) (fun g o hg => ⟨by simp [Owner.mv, hg, argIn], rfl⟩)
      · cases out with
        | exit id => cases hK
        | normal =>
          rw [← hhl] at hK
          obtain ⟨u, hu, hpost⟩ := end_ok hT h' hK
          exact ⟨hd', u, hu, hpost⟩
        | ret =>
          rw [← hhl] at hK
          obtain ⟨u, hu, hpost⟩ := end_ok hT h' hK
          exact ⟨hd', u, hu, hpost⟩

/-- The functions that are followed by their code. -/
noncomputable def FunsOK (P : Program) (fs : Nat → Option Func) (at_ : AT) : Prop := ∀ g ac fn, at_.find g = some ac → fs g = some fn → P.funcs[g]? = some fn ∧ (fn.name == "runtime.NumGoroutine") = false

theorem acall_ok (hT : TysOK P cx) (hE : EqOK P cx) (hD : ∀ O, OracleOK P O → DregOK P cx O) {fs : Nat → Option Func} {at_ : AT} (hF : FunsOK P fs at_) {prim : Oracle} (hp : OracleOK P prim) : ∀ n, OracleOK P (acall cx fs at_ prim n)
  | 0 => fun f args h K r hr => by cases hr
  | n + 1 => fun f args h K r hr => by
    unfold acall at hr
    split at hr
    · rename_i ac hac
      split at hr
      · rename_i fn hfn
        obtain ⟨h1, h2⟩ := hF f ac fn hac hfn
        exact fun_ok hT hE hD (acall_ok hT hE hD hF hp n) n ac f fn h1 h2 args h K r hr
      · cases hr
    · exact hp f args h K r hr

end
end Go.Proofs.YtognccpmaljamaaGreatDoor.Sa

/- AS, part S21: regions whose order is drawn: what may be taken first. -/
namespace Go.Proofs.YtognccpmaljamaaGreatDoor.Sa
open Go
variable [GlobMem]

noncomputable def Agree (C : Mem) (w : World) : Prop := ∀ g o c, C g o = some c → w.cell? ⟨g, o, none⟩ = some c

theorem Agree.le {C C' : Mem} {w : World} (h : MLe C C') (h' : Agree C' w) : Agree C w := fun g o c hc => h' g o c (h g o c hc)

section
variable {P : Program} {ops : Array Oper} {Q : Exit → Act → World → Prop} {md : Region.Mode}

/-- j waits for i. -/
noncomputable def Waits (md : Region.Mode) (ops : Array Oper) (j i : Nat) : Prop := ∃ o, ops[j]? = some o ∧ ∃ e ∈ o.after, Region.binds md e = true ∧ e.on = i

/-- Whatever order is picked from here on; the cells of C stay while something of E may still come. -/
noncomputable def wpAnyG (P : Program) (md : Region.Mode) (ops : Array Oper) (Q : Exit → Act → World → Prop) : Nat → Array Bool → Act → World → Mem → (Nat → Prop) → Prop
  | 0, listed, a, w, _, _ => Region.ready md ops listed = [] ∧ Q .normal a w
  | fuel + 1, listed, a, w, C, E =>
    (Region.ready md ops listed = [] → Q .normal a w) ∧
    ∀ j ∈ Region.ready md ops listed, wpOp P ops Q j (fun a' w' => ∃ C' E', ((∀ i, E i → Waits md ops j i) ∨ MLe C C' ∧ ∀ i, E i → E' i) ∧ Agree C' w' ∧ wpAnyG P md ops Q fuel (listed.setIfInBounds j true) a' w' C' E') a w

theorem wpAny_of_G : ∀ (fuel : Nat) (listed : Array Bool) (a : Act) (w : World) (C : Mem) (E : Nat → Prop), wpAnyG P md ops Q fuel listed a w C E → wpAny P md ops Q fuel listed a w
  | 0, _, _, _, _, _, h => h
  | fuel + 1, _, _, _, _, _, h => ⟨h.1, fun i hi => wpOp_mono (fun a' w' ⟨C', E', _, _, h'⟩ => wpAny_of_G fuel _ a' w' C' E' h') (h.2 i hi)⟩

theorem YieldsIf.mono {S S' : World → Prop} {o : Oper} {v : Value} {a : Act} (h : YieldsIf P ops S o v a) (hs : ∀ w, S' w → S w) : YieldsIf P ops S' o v a :=
  h.imp (fun ⟨hw, hv⟩ => ⟨hw, fun w h => hv w (hs w h)⟩) id

theorem wpAnyG_first {i : Nat} {oi : Oper} {v : Value} (hi : ops[i]? = some oi) (hsel : ∀ (j : Nat) (o : Oper) cs b, ops[j]? = some o → o.op ≠ .select cs b)
    (hQ : ∀ c a w, Q (.panic c) (a.put oi.dst v) w → Q (.panic c) a w) :
    ∀ (fuel : Nat) (listed : Array Bool) (a : Act) (w : World) (C : Mem) (E : Nat → Prop),
      (∀ j oj, ops[j]? = some oj → j ≠ i → listed.getD j true = false → (∀ e ∈ oj.after, Region.binds md e = true → e.on ≠ i) → oi.apart ops oj = true) →
      i ∈ Region.ready md ops listed → (YieldsIf P ops (fun _ => True) oi v a ∨ YieldsIf P ops (Agree C) oi v a ∧ E i) → Agree C w →
      wpAnyG P md ops Q fuel (listed.setIfInBounds i true) (a.put oi.dst v) w C E → wpAnyG P md ops Q (fuel + 1) listed a w C E := by
  have yields : ∀ {a : Act} {C : Mem} {E : Nat → Prop}, (YieldsIf P ops (fun _ => True) oi v a ∨ YieldsIf P ops (Agree C) oi v a ∧ E i) → YieldsIf P ops (Agree C) oi v a := fun h => by
    rcases h with h | h
    · exact YieldsIf.mono h fun _ _ => trivial
    · exact h.1
  intro fuel
  induction fuel with
  | zero =>
    intro listed a w C E _ hr hy hS H
    refine ⟨fun h => (by rw [h] at hr; cases hr), fun j hj => ?_⟩
    by_cases hji : j = i
    · subst hji; exact (yields hy).wpOp hi hS ⟨C, E, .inr ⟨MLe.refl _, fun _ h => h⟩, hS, H⟩
    · have := ready_mono hj hji
      rw [H.1] at this
      cases this
  | succ fuel ih =>
    intro listed a w C E hfree hr hy hS H
    refine ⟨fun h => (by rw [h] at hr; cases hr), fun j hj => ?_⟩
    by_cases hji : j = i
    · subst hji; exact (yields hy).wpOp hi hS ⟨C, E, .inr ⟨MLe.refl _, fun _ h => h⟩, hS, H⟩
    · have h1 := H.2 j (ready_mono hj hji)
      obtain ⟨hjun, oj, hoj, hall⟩ := mem_ready.1 hj
      have hnot : ∀ e ∈ oj.after, Region.binds md e = true → e.on ≠ i := fun e he hb heq => by
        have h1 := hall e he hb
        have h0 := (mem_ready.1 hr).1
        rw [heq] at h1
        rcases Nat.lt_or_ge i listed.size with h' | h'
        · simp [h'] at h0 h1; rw [h0] at h1; cases h1
        · simp [Array.getElem?_eq_none h'] at h1
      have hnw : ¬ Waits md ops j i := fun ⟨o, ho, e, he, hb, hon⟩ => by
        rw [hoj] at ho; cases ho
        exact hnot e he hb hon
      have hfree' : ∀ k ok, ops[k]? = some ok → k ≠ i → (listed.setIfInBounds j true).getD k true = false →
          (∀ e ∈ ok.after, Region.binds md e = true → e.on ≠ i) → oi.apart ops ok = true := fun k ok hk hki hun hno => by
        refine hfree k ok hk hki ?_ hno
        by_cases hjk : j = k
        · subst hjk; exact hjun
        · rw [getD_set_ne true hjk] at hun; exact hun
      have hap := hfree j oj hoj hji hjun hnot
      have go : ∀ (S : World → Prop), YieldsIf P ops S oi v a → (∀ (a' : Act) (C' : Mem) (E' : Nat → Prop), YieldsIf P ops S oi v a' → ((∀ i', E i' → Waits md ops j i') ∨ MLe C C' ∧ ∀ i', E i' → E' i') → (YieldsIf P ops (fun _ => True) oi v a' ∨ YieldsIf P ops (Agree C') oi v a' ∧ E' i)) →
          wpOp P ops Q j (fun a' w' => ∃ C' E', ((∀ i', E i' → Waits md ops j i') ∨ MLe C C' ∧ ∀ i', E i' → E' i') ∧ Agree C' w' ∧ wpAnyG P md ops Q (fuel + 1) (listed.setIfInBounds j true) a' w' C' E') a w := by
        intro S hy hnext
        have h2 := wpOp_putIf hoj hap (fun cs b => hsel i oi cs b hi) (fun cs b => hsel j oj cs b hoj) hQ hy h1
        refine wpOp_mono (fun a' w' h3 => ?_) h2
        obtain ⟨hya, C', E', hCC, hS', h4⟩ := h3
        refine ⟨C', E', hCC, hS', ih (listed.setIfInBounds j true) a' w' C' E' hfree' (ready_mono hr (Ne.symm hji)) (hnext a' C' E' hya hCC) hS' ?_⟩
        rw [Array.setIfInBounds_comm _ _ hji]
        exact h4
      rcases hy with hy | ⟨hy, hEi⟩
      · exact go _ hy fun a' C' E' hya _ => .inl hya
      · refine go _ hy fun a' C' E' hya hCC => .inr ?_
        rcases hCC with hw | ⟨hm, hE'⟩
        · exact absurd (hw i hEi) hnw
        · exact ⟨YieldsIf.mono hya fun w h => h.le hm, hE' i hEi⟩

end
end Go.Proofs.YtognccpmaljamaaGreatDoor.Sa

/- AS, part S22: regions whose order is drawn: blocks hidden, variables made at any time. -/
namespace Go.Proofs.YtognccpmaljamaaGreatDoor.Sa
open Go
variable [GlobMem]

section
variable {B : Base} {s : S} {tm : Array Value} {w : World} {Own : Owner} {ρ : List Nat} {M : Mem}

/-- Begun anew. -/
theorem RS.anew (h : RS B s tm w Own ρ M) : RS (bs0 Own w M ρ) s tm w Own ρ M :=
  ⟨h.wi, Fr.refl _ _, MLe.refl _, h.globNew, Ext.refl _, fun g ℓ hg => .inl (by rw [bs0]; simp [hg]), fun g o c hc => .inl hc, h.len, h.env, h.hlen, h.heap⟩

/-- What was begun anew, told of from the beginning. -/
theorem RS.rebase (h : RS B s tm w Own ρ M) {s' : S} {tm' : Array Value} {w' : World} {Own' : Owner} {ρ' : List Nat} {M' : Mem} (h' : RS (bs0 Own w M ρ) s' tm' w' Own' ρ' M') : RS B s' tm' w' Own' ρ' M' := by
  have own : ∀ g, Own g ≠ none → B.F g ∨ B.w.heap.size ≤ g := fun g hg => by
    cases hq : Own g with
    | none => exact absurd hq hg
    | some q => exact h.own0 g q hq
  refine ⟨h'.wi, h.fr.to h'.fr.os h'.fr.tape h'.fr.output h'.fr.size (fun g hg hF => h'.fr.keep g (Nat.lt_of_lt_of_le hg h.fr.size) (fun e => ?_)), h.mle.trans h'.mle, ⟨h'.glob.1, h.glob.2⟩, fun b g hb => h'.ext b g (h.ext b g hb), fun g ℓ hg => ?_, fun g o c hc => ?_, h'.len, h'.env, h'.hlen, h'.heap⟩
  · rcases own g e with h1 | h1
    · exact hF h1
    · omega
  · rcases h'.own0 g ℓ hg with h1 | h1
    · exact own g h1
    · exact .inr (Nat.le_trans h.fr.size h1)
  · rcases h'.mnew g o c hc with h1 | h1 | h1
    · exact h.mnew g o c h1
    · exact .inr (own g h1)
    · exact .inr (.inr (Nat.le_trans h.fr.size h1))

end
section
variable {P : Program} {cx : Cx} {B : Base} {a : Act} {w : World} {s : S}

/-- One operation of a region; what it sets is its own slot alone. -/
theorem op1_put (hT : TysOK P cx) (hE : EqOK P cx) {O : Oracle} (hO : OracleOK P O) {ops : Array Oper} {o : Oper} {m : List Nat} {K : S → Option Res} {r : Res} (h : RSx B s a.tmps w) (hr : op1A cx O ops o m s K = some r)
    (Q : Exit → Act → World → Prop) (next : Act → World → Prop) (hn : ∀ s' v' w', K s' = some r → RSx B s' (a.put o.dst v').tmps w' → next (a.put o.dst v') w') :
    if Region.wanted o (yielded ops a.tmps) = true then o.wp P a w next Q else next (a.put o.dst undef) w := by
  unfold op1A at hr
  have run : ∀ s, RSx B s a.tmps w → (stepA cx O o m s fun v s => K (s.put o.dst v)) = some r → o.wp P a w next Q := by
    intro s hs hr
    exact stepA_ok hT hE hO hs m _ r hr next Q fun v s' v' w' hK hf => hn _ _ _ hK (hf.put o.dst)
  split at hr
  · rename_i hg
    rw [if_pos (by simp [Region.wanted, hg])]
    exact run s h hr
  · rename_i j want hg
    split at hr
    · cases hr
    · rename_i t ht
      have hy : ∀ b, a.tmps[t]? = some (.bool b) → yielded ops a.tmps j = some b := fun b hb => by simp [yielded, ht, hb]
      split at hr
      · rename_i b hb
        have hyb := hy b (h.slotBool hb)
        have h' := h.retold hb
        have hw : Region.wanted o (yielded ops a.tmps) = (b == want) := by simp only [Region.wanted, hg, hyb]; cases b <;> cases want <;> rfl
        rw [hw]
        cases b
        · cases want
          · simp only at hr; simp; exact run _ h' hr
          · simp only at hr; simp; exact hn _ _ _ hr (h'.skip o.dst)
        · cases want
          · simp only at hr; simp; exact hn _ _ _ hr (h'.skip o.dst)
          · simp only at hr; simp; exact run _ h' hr
      · rename_i hb
        have hyn : yielded ops a.tmps j = none := by simp [yielded, ht, h.slotTup hb]
        rw [if_neg (by simp [Region.wanted, hg, hyn])]
        exact hn _ _ _ hr (h.skip o.dst)
      · cases hr

end
/-! ### what may come up -/
theorem inL_iff {l : List Nat} {i : Nat} : inL l i = true ↔ i ∈ l := by
  unfold inL
  rw [List.any_eq_true]
  constructor
  · rintro ⟨x, hx, e⟩; rw [Nat.eq_of_beq_eq_true e]; exact hx
  · intro h; exact ⟨i, h, Nat.beq_refl i⟩

theorem afterIn_iff {l : List Nat} : ∀ {es : List Edge}, afterIn l es = true ↔ ∀ e ∈ es, Region.binds .any e = true → e.on ∈ l
  | [] => by simp [afterIn]
  | e :: es => by
    unfold afterIn
    cases hb : Region.binds .any e with
    | false => simp only [afterIn_iff (es := es), List.forall_mem_cons, hb]; simp
    | true =>
      cases hi : inL l e.on with
      | true => simp only [afterIn_iff (es := es), List.forall_mem_cons, hb, inL_iff.1 hi]; simp
      | false =>
        simp only [List.forall_mem_cons, hb, true_implies]
        constructor
        · intro h; cases h
        · rintro ⟨h, _⟩; rw [← inL_iff, hi] at h; cases h

theorem rdyA_iff {l : List Nat} {j : Nat} : ∀ {os : List Oper} {k : Nat}, j ∈ rdyA l k os ↔ ∃ o, k ≤ j ∧ os[j - k]? = some o ∧ j ∉ l ∧ afterIn l o.after.toList = true
  | [], k => by simp [rdyA]
  | o :: os, k => by
    have step : (∃ o', k + 1 ≤ j ∧ os[j - (k + 1)]? = some o' ∧ j ∉ l ∧ afterIn l o'.after.toList = true) ↔ (∃ o', k ≤ j ∧ (o :: os)[j - k]? = some o' ∧ j ∉ l ∧ afterIn l o'.after.toList = true) ∧ j ≠ k ∨ False := by
      constructor
      · rintro ⟨o', h1, h2, h3, h4⟩
        left
        refine ⟨⟨o', by omega, ?_, h3, h4⟩, by omega⟩
        rw [show j - k = (j - (k + 1)) + 1 by omega]; simpa using h2
      · rintro (⟨⟨o', h1, h2, h3, h4⟩, hne⟩ | h)
        · refine ⟨o', by omega, ?_, h3, h4⟩
          rw [show j - k = (j - (k + 1)) + 1 by omega] at h2; simpa using h2
        · exact h.elim
    unfold rdyA
    cases hi : inL l k with
    | true =>
      rw [rdyA_iff, step]
      have hk := inL_iff.1 hi
      constructor
      · rintro (⟨h, _⟩ | h)
        · exact h
        · exact h.elim
      · rintro ⟨o', h1, h2, h3, h4⟩
        exact .inl ⟨⟨o', h1, h2, h3, h4⟩, fun e => h3 (e ▸ hk)⟩
    | false =>
      have hk : k ∉ l := fun h => by rw [inL_iff.2 h] at hi; cases hi
      cases ha : afterIn l o.after.toList with
      | true =>
        rw [List.mem_cons, rdyA_iff, step]
        constructor
        · rintro (rfl | ⟨h, _⟩ | h)
          · exact ⟨o, Nat.le_refl _, by simp, hk, ha⟩
          · exact h
          · exact h.elim
        · rintro ⟨o', h1, h2, h3, h4⟩
          by_cases e : j = k
          · exact .inl e
          · exact .inr (.inl ⟨⟨o', h1, h2, h3, h4⟩, e⟩)
      | false =>
        rw [rdyA_iff, step]
        constructor
        · rintro (⟨h, _⟩ | h)
          · exact h
          · exact h.elim
        · rintro ⟨o', h1, h2, h3, h4⟩
          refine .inl ⟨⟨o', h1, h2, h3, h4⟩, fun e => ?_⟩
          subst e
          simp at h2
          subst h2
          rw [ha] at h4; cases h4

/-- The marks are those of l. -/
noncomputable def Marks (ops : Array Oper) (listed : Array Bool) (l : List Nat) : Prop := listed.size = ops.size ∧ ∀ i, i < ops.size → (listed.getD i false = true ↔ i ∈ l)

theorem Marks.unlisted {ops : Array Oper} {listed : Array Bool} {l : List Nat} (h : Marks ops listed l) {i : Nat} (hi : i < ops.size) : listed.getD i true = false ↔ i ∉ l := by
  have h1 := h.2 i hi
  have hs : i < listed.size := by rw [h.1]; exact hi
  simp only [Array.getD, hs, dite_true] at h1 ⊢
  rw [← h1]
  simp

theorem Marks.add {ops : Array Oper} {listed : Array Bool} {l : List Nat} (h : Marks ops listed l) (i : Nat) : Marks ops (listed.setIfInBounds i true) (i :: l) := by
  refine ⟨by simp [h.1], fun j hj => ?_⟩
  have hs : j < listed.size := by rw [h.1]; exact hj
  have h1 := h.2 j hj
  by_cases e : i = j
  · subst e
    simp [Array.getD, hs]
  · rw [List.mem_cons, ← h1]
    have : (listed.setIfInBounds i true).getD j false = listed.getD j false := by
      simp [Array.getD, hs, Array.getElem_setIfInBounds, e]
    rw [this]
    constructor
    · exact .inr
    · rintro (h | h)
      · exact absurd h.symm e
      · exact h

theorem ready_rdyA {ops : Array Oper} {listed : Array Bool} {l : List Nat} (h : Marks ops listed l) {j : Nat} (hj : j ∈ Region.ready .any ops listed) : j ∈ rdyA l 0 ops.toList := by
  obtain ⟨h0, o, ho, hall⟩ := mem_ready.1 hj
  have hlt : j < ops.size := (Array.getElem?_eq_some_iff.1 ho).1
  refine rdyA_iff.2 ⟨o, Nat.zero_le _, by simpa using ho, (h.unlisted hlt).1 h0, afterIn_iff.2 fun e he hb => ?_⟩
  have := hall e (by simpa using he) hb
  have hon : e.on < ops.size := by
    rcases Nat.lt_or_ge e.on ops.size with h' | h'
    · exact h'
    · have : ¬ e.on < listed.size := by rw [h.1]; omega
      simp [Array.getD, this] at *
  exact (h.2 e.on hon).1 this

theorem rdyA_ready {ops : Array Oper} {listed : Array Bool} {l : List Nat} (h : Marks ops listed l) (hl : ∀ i, i ∈ l → i < ops.size) {j : Nat} (hj : j ∈ rdyA l 0 ops.toList) : j ∈ Region.ready .any ops listed := by
  obtain ⟨o, _, ho, hnl, ha⟩ := rdyA_iff.1 hj
  have ho' : ops[j]? = some o := by simpa using ho
  have hlt : j < ops.size := (Array.getElem?_eq_some_iff.1 ho').1
  refine mem_ready.2 ⟨(h.unlisted hlt).2 hnl, o, ho', fun e he hb => ?_⟩
  have hm := afterIn_iff.1 ha e (by simpa using he) hb
  exact (h.2 e.on (hl _ hm)).2 hm

end Go.Proofs.YtognccpmaljamaaGreatDoor.Sa

/- AS, part S23: blocks hidden and shown again. -/
namespace Go.Proofs.YtognccpmaljamaaGreatDoor.Sa
open Go
variable [GlobMem]

noncomputable def orO (Own OwnH : Owner) : Owner := fun g => match Own g with
  | some q => some q
  | none => OwnH g

structure HS (B : Base) (s : S) (tm : Array Value) (w : World) (Own : Owner) (ρ : List Nat) (M : Mem) (OwnH : Owner) (hc : List (Nat × List AVal)) : Prop where
  rs : RS B s tm w Own ρ M
  nd : (hc.map (·.1)).Nodup
  hid : ∀ b cs, (b, cs) ∈ hc → s.heap[b]? = some []
  blk : ∀ b cs, (b, cs) ∈ hc → cs ≠ [] ∧ BlkAt OwnH w ρ M b cs
  own : ∀ g ℓ, OwnH g = some ℓ → Own g = none ∧ (∀ o, M g o = none) ∧ g < w.heap.size ∧ (B.F g ∨ B.w.heap.size ≤ g)

theorem unhide_length : ∀ (hc : List (Nat × List AVal)) (heap : List (List AVal)), (unhide heap hc).length = heap.length
  | [], _ => rfl
  | (b, cs) :: hc, heap => by rw [unhide, unhide_length hc]; simp

theorem unhide_other {b : Nat} : ∀ (hc : List (Nat × List AVal)) (heap : List (List AVal)), b ∉ hc.map (·.1) → (unhide heap hc)[b]? = heap[b]?
  | [], _, _ => rfl
  | (c, cs) :: hc, heap, h => by
    simp only [List.map_cons, List.mem_cons, not_or] at h
    rw [unhide, unhide_other hc _ h.2, List.getElem?_set, if_neg (fun e => h.1 e.symm)]

theorem unhide_at {b : Nat} {cs : List AVal} : ∀ (hc : List (Nat × List AVal)) (heap : List (List AVal)), (hc.map (·.1)).Nodup → (b, cs) ∈ hc → b < heap.length → (unhide heap hc)[b]? = some cs
  | [], _, _, h, _ => by cases h
  | (c, ds) :: hc, heap, hn, h, hb => by
    simp only [List.map_cons, List.nodup_cons] at hn
    rcases List.mem_cons.1 h with e | h
    · cases e
      rw [unhide, unhide_other hc _ hn.1, List.getElem?_set, if_pos rfl, if_pos hb]
    · rw [unhide]
      exact unhide_at hc _ hn.2 h (by simpa using hb)

section
variable {B : Base} {s : S} {tm : Array Value} {w : World} {Own : Owner} {ρ : List Nat} {M : Mem} {OwnH : Owner} {hc : List (Nat × List AVal)}

theorem HS.show (h : HS B s tm w Own ρ M OwnH hc) : RS B { s with heap := unhide s.heap hc } tm w (orO Own OwnH) ρ M := by
  have keep : ∀ g q, Own g = some q → orO Own OwnH g = some q := fun g q hq => by simp [orO, hq]
  have keepH : ∀ g q, OwnH g = some q → orO Own OwnH g = some q := fun g q hq => by simp [orO, (h.own g q hq).1, hq]
  have split : ∀ g q, orO Own OwnH g = some q → Own g = some q ∨ OwnH g = some q := fun g q hq => by
    unfold orO at hq
    split at hq
    · rename_i q' hq'; cases hq; exact .inl hq'
    · exact .inr hq
  refine h.rs.turn (Ext.refl _) (MLe.refl _) ⟨h.rs.wi.agree, fun g q hq o => ?_, fun g q hq => ?_⟩ h.rs.fr (fun g q hq => ?_) h.rs.mnew rfl (by simp [unhide_length, h.rs.hlen]) (fun t a v ha hv => .inl ⟨ha, fun g p hg => ⟨keep g _ hg, rfl⟩⟩) (fun u b hb hu => ⟨b, hb, hu⟩) (fun b cs hb hne => ?_)
  · rcases split g q hq with h1 | h1
    · exact h.rs.wi.free g q h1 o
    · exact (h.own g q h1).2.1 o
  · rcases split g q hq with h1 | h1
    · exact h.rs.wi.lt g q h1
    · exact (h.own g q h1).2.2.1
  · rcases split g q hq with h1 | h1
    · exact h.rs.own0 g q h1
    · exact (h.own g q h1).2.2.2
  · dsimp only at hb
    by_cases hm : b ∈ hc.map (·.1)
    · right
      obtain ⟨⟨b', cs'⟩, hmem, rfl⟩ := List.mem_map.1 hm
      have hlt : b' < s.heap.length := (List.getElem?_eq_some_iff.1 (h.hid b' cs' hmem)).1
      rw [unhide_at hc _ h.nd hmem hlt] at hb
      cases hb
      exact (h.blk b' cs hmem).2.move (Ext.refl _) (MLe.refl _) (fun g hg => ⟨keepH g _ hg, rfl⟩) (fun g o hg => ⟨keepH g _ hg, rfl⟩)
    · left
      rw [unhide_other hc _ hm] at hb
      exact ⟨hb, fun g ℓ _ hg => ⟨keep g ℓ hg, rfl⟩⟩

/-- The words of the blocks bs. -/
noncomputable def locIn (bs : List Nat) : Loc → Bool
  | .var b => inL bs b
  | .cell b _ => inL bs b
  | _ => false

noncomputable def outO (bs : List Nat) (Own : Owner) : Owner := fun g => match Own g with
  | some q => match locIn bs q with | true => none | false => some q
  | none => none
noncomputable def inO (bs : List Nat) (Own : Owner) : Owner := fun g => match Own g with
  | some q => match locIn bs q with | true => some q | false => none
  | none => none

theorem outO_some {bs : List Nat} {g : Nat} {q : Loc} : outO bs Own g = some q ↔ Own g = some q ∧ locIn bs q = false := by
  unfold outO
  cases h : Own g with
  | none => simp
  | some p =>
    simp only
    cases h2 : locIn bs p with
    | true => simp only [reduceCtorEq, false_iff]; rintro ⟨e, h3⟩; cases e; rw [h2] at h3; cases h3
    | false => simp only [Option.some.injEq]; constructor
               · rintro rfl; exact ⟨rfl, h2⟩
               · rintro ⟨rfl, _⟩; rfl
theorem inO_some {bs : List Nat} {g : Nat} {q : Loc} : inO bs Own g = some q ↔ Own g = some q ∧ locIn bs q = true := by
  unfold inO
  cases h : Own g with
  | none => simp
  | some p =>
    simp only
    cases h2 : locIn bs p with
    | false => simp only [reduceCtorEq, false_iff]; rintro ⟨e, h3⟩; cases e; rw [h2] at h3; cases h3
    | true => simp only [Option.some.injEq]; constructor
              · rintro rfl; exact ⟨rfl, h2⟩
              · rintro ⟨rfl, _⟩; rfl

theorem hideAll_spec : ∀ (bs : List Nat) (heap : List (List AVal)), bs.Nodup → (hideAll heap bs).2.length = heap.length ∧ (hideAll heap bs).1.map (·.1) = bs ∧ (∀ b cs, (b, cs) ∈ (hideAll heap bs).1 → cs = heap.getD b []) ∧
    (∀ b, b ∈ bs → b < heap.length → (hideAll heap bs).2[b]? = some []) ∧ ∀ b, b ∉ bs → (hideAll heap bs).2[b]? = heap[b]?
  | [], heap, _ => ⟨rfl, rfl, fun b cs h => (by cases h), fun b h => (by cases h), fun b _ => rfl⟩
  | b :: bs, heap, hn => by
    obtain ⟨hb, hn⟩ := List.nodup_cons.1 hn
    obtain ⟨h1, h2, h3, h4, h5⟩ := hideAll_spec bs (heap.set b []) hn
    simp only [hideAll]
    refine ⟨by rw [h1]; simp, by simp [h2], fun c cs hc => ?_, fun c hc hlt => ?_, fun c hc => ?_⟩
    · rcases List.mem_cons.1 hc with e | hc
      · cases e; rfl
      · have hcb : c ≠ b := fun e => by
          subst e
          apply hb
          rw [← h2]
          exact List.mem_map.2 ⟨_, hc, rfl⟩
        rw [h3 c cs hc]
        simp [List.getD, List.getElem?_set, hcb.symm]
    · by_cases e : c = b
      · subst e
        rw [h5 c hb]
        simp [hlt]
      · rcases List.mem_cons.1 hc with h | h
        · exact absurd h e
        · exact h4 c h (by simpa using hlt)
    · simp only [List.mem_cons, not_or] at hc
      rw [h5 c hc.2, List.getElem?_set, if_neg (fun e => hc.1 e.symm)]

theorem HS.hide (h : RS B s tm w Own ρ M) (bs : List Nat) (hn : bs.Nodup) (hbs : ∀ b, b ∈ bs → ∃ c cs, s.heap[b]? = some (c :: cs)) :
    HS B { s with heap := (hideAll s.heap bs).2 } tm w (outO bs Own) ρ M (inO bs Own) (hideAll s.heap bs).1 := by
  obtain ⟨h1, h2, h3, h4, h5⟩ := hideAll_spec bs s.heap hn
  have hlt : ∀ b, b ∈ bs → b < s.heap.length := fun b hb => by
    obtain ⟨c, cs, e⟩ := hbs b hb
    exact (List.getElem?_eq_some_iff.1 e).1
  refine ⟨?_, by rw [h2]; exact hn, fun b cs hb => ?_, fun b cs hb => ?_, fun g ℓ hg => ?_⟩
  · refine h.turn (Ext.refl _) (MLe.refl _) ⟨h.wi.agree, fun g q hq o => h.wi.free g q (outO_some.1 hq).1 o, fun g q hq => h.wi.lt g q (outO_some.1 hq).1⟩ h.fr (fun g q hq => h.own0 g q (outO_some.1 hq).1) h.mnew rfl (by simp [h1, h.hlen])
      (fun t a v ha hv => .inl ⟨ha, fun g p hg => ⟨outO_some.2 ⟨hg, rfl⟩, rfl⟩⟩) (fun u b hb hu => ⟨b, hb, hu⟩) (fun b cs hb hne => ?_)
    dsimp only at hb
    by_cases hm : b ∈ bs
    · rw [h4 b hm (hlt b hm)] at hb
      cases hb
      exact absurd rfl hne
    · left
      rw [h5 b hm] at hb
      have hf : inL bs b = false := by
        cases e : inL bs b with
        | false => rfl
        | true => exact absurd (inL_iff.1 e) hm
      exact ⟨hb, fun g ℓ hl hg => ⟨outO_some.2 ⟨hg, by rcases hl with rfl | ⟨o, rfl⟩ <;> exact hf⟩, rfl⟩⟩
  · have hb' : b ∈ bs := by rw [← h2]; exact List.mem_map.2 ⟨_, hb, rfl⟩
    exact h4 b hb' (hlt b hb')
  · have hb' : b ∈ bs := by rw [← h2]; exact List.mem_map.2 ⟨_, hb, rfl⟩
    obtain ⟨c, ds, e⟩ := hbs b hb'
    have ec : cs = c :: ds := by rw [h3 b cs hb]; exact getD_of e
    subst ec
    refine ⟨by simp, (h.heap b _ e (by simp)).move (Ext.refl _) (MLe.refl _) (fun g hg => ⟨inO_some.2 ⟨hg, inL_iff.2 hb'⟩, rfl⟩) (fun g o hg => ⟨inO_some.2 ⟨hg, inL_iff.2 hb'⟩, rfl⟩)⟩
  · obtain ⟨hg, hl⟩ := inO_some.1 hg
    refine ⟨?_, h.wi.free g ℓ hg, h.wi.lt g ℓ hg, h.own0 g ℓ hg⟩
    simp [outO, hg, hl]

/-- What is hidden stays as another operation runs. -/
theorem HS.step (h : HS B s tm w Own ρ M OwnH hc) {s' : S} {tm' : Array Value} {w' : World} {Own' : Owner} {ρ' : List Nat} {M' : Mem} (h' : RS (bs0 Own w M ρ) s' tm' w' Own' ρ' M') (hs : ∀ b cs, (b, cs) ∈ hc → s'.heap[b]? = some []) :
    HS B s' tm' w' Own' ρ' M' OwnH hc := by
  have un : ∀ g ℓ, OwnH g = some ℓ → Own' g = none ∧ (∀ o, M' g o = none) ∧ w'.heap[g]? = w.heap[g]? := fun g ℓ hg => by
    obtain ⟨h1, h2, h3, h4⟩ := h.own g ℓ hg
    refine ⟨?_, fun o => ?_, h'.fr.keep g h3 (fun e => e h1)⟩
    · cases hq : Own' g with
      | none => rfl
      | some q =>
        rcases h'.own0 g q hq with k | k
        · exact absurd h1 k
        · have : w.heap.size ≤ g := k
          omega
    · cases hq : M' g o with
      | none => rfl
      | some c =>
        rcases h'.mnew g o c hq with k | k | k
        · rw [show (bs0 Own w M ρ).M = M from rfl, h2 o] at k; cases k
        · exact absurd h1 k
        · have : w.heap.size ≤ g := k
          omega
  refine ⟨h.rs.rebase h', h.nd, hs, fun b cs hb => ?_, fun g ℓ hg => ?_⟩
  · obtain ⟨k1, k2⟩ := h.blk b cs hb
    exact ⟨k1, k2.move h'.ext h'.mle (fun g hg => ⟨hg, (un g _ hg).2.2⟩) (fun g o hg => ⟨hg, (un g _ hg).2.2⟩)⟩
  · obtain ⟨h1, h2, h3, h4⟩ := h.own g ℓ hg
    obtain ⟨k1, k2, _⟩ := un g ℓ hg
    exact ⟨k1, k2, Nat.lt_of_lt_of_le h3 h'.fr.size, h4⟩

end
end Go.Proofs.YtognccpmaljamaaGreatDoor.Sa

/- AS, part S24: what may be taken ahead: its run. -/
namespace Go.Proofs.YtognccpmaljamaaGreatDoor.Sa
open Go
variable [GlobMem]

section
variable {P : Program} {cx : Cx} {B : Base} {o : Oper} {a : Act} {w : World} {s : S}

theorem StepOKp.run {x : Option Res} {K : KV} {r : Res} (h : StepOKp P B o a w x K) (hr : x = some r) : ∃ u, ∀ w', (execOp a.eval o).run P w' = .ok (.value u) w' :=
  let ⟨_, _, _, u, h1, _⟩ := h r hr
  ⟨u, h1⟩

/-- A calm operation that is no load: whatever the world, it comes to the same and does nothing. -/
theorem calm_run (hT : TysOK P cx) (hE : EqOK P cx) {O : Oracle} (h : RSx B s a.tmps w) (hc : calmK cx o = true) (hl : isLoad o = false) {ms : List Nat} {K : KV} {r : Res} (hr : stepA cx O o ms s K = some r) :
    ∃ u, ∀ w', (execOp a.eval o).run P w' = .ok (.value u) w' := by
  unfold calmK at hc
  unfold isLoad at hl
  unfold stepA at hr
  cases hop : o.op with
  | move x => rw [hop] at hr; exact (step_move h x hop _ _ K).run hr
  | assign x => rw [hop] at hr; exact (step_assign h x hop _ _ K).run hr
  | pick c x y => rw [hop] at hr; exact (step_pick h c x y hop _ K).run hr
  | nilCheck x => rw [hop] at hr; exact (step_nilCheck h x hop K).run hr
  | fieldAddr t x f => rw [hop] at hr; exact (step_fieldAddr hT h t x f hop K).run hr
  | indexAddr t x i =>
    simp only [hop] at hr
    split at hr
    · rename_i k n hn
      split at hr
      · rename_i cs hcs; exact (step_indexRP hT hE.2 h t x i hop hn hcs K).run hr
      · exact (step_indexA hT h t x i hop hn K).run hr
    · cases hr
  | index t x i =>
    simp only [hop] at hr
    split at hr
    · rename_i k n hn; exact (step_index hT h t x i hop hn K).run hr
    · cases hr
  | extract x i =>
    simp only [hop] at hr
    have := step_extract (P := P) h x i hop K
    cases x <;> exact this.run hr
  | unOp op t x => rw [hop] at hr; exact (step_unOp h op t x hop K).run hr
  | binOp op t x y yt => rw [hop] at hr; exact (step_binOp hT hE h op t x y yt hop K).run hr
  | load t x => rw [hop] at hl; cases hl
  | slice t x lo hi mx =>
    cases mx with
    | some _ => rw [hop] at hc; cases hc
    | none =>
      simp only [hop] at hr
      split at hr
      · rename_i cs hcs
        exact (step_sliceRA hT h t x lo hi hop (rptrOf_eq hcs) K).run hr
      · split at hr
        · rename_i b off hbo; exact (step_sliceVA hT h t x lo hi hop (ptrOf_eq hbo) K).run hr
        · exact (step_slice hT h t x lo hi hop _ K).run hr
  | convert src t x =>
    simp only [hop] at hr hc
    split at hr
    · cases hr
    · rename_i ds hds
      split at hr
      · rename_i d hd
        simp only [hd] at hc
        split at hc
        · rename_i k hk
          simp only [hk] at hr
          split at hr
          · rename_i k' n hx
            have hx' := rdo_int h hx
            obtain ⟨us, hus, hks⟩ := (hT src ds hds).und
            obtain ⟨ud, hud, hkd⟩ := (hT t d hd).und
            rw [hk] at hkd; simp only [kindOK] at hkd; subst hkd
            rename_i hsk
            have hsi : ∃ x, (execOp a.eval o).run P w = .ok (.value x) w := by
              refine ⟨.int k (k.wrap n), ?_⟩
              simp [execOp, hop, hx', Go.convert, run_underlying hus, run_underlying hud, Conv.intToInt]
            refine ⟨.int k (k.wrap n), fun w' => ?_⟩
            simp [execOp, hop, hx', Go.convert, run_underlying hus, run_underlying hud, Conv.intToInt]
          · cases hr
        · cases hc
      · cases hr
  | call c =>
    simp only [hop] at hr hc
    split at hr
    · rename_i b hb
      simp only [hb] at hc
      unfold builtinA at hr
      split at hr
      · split at hr
        · rename_i x hx
          split at hr
          · rename_i t ts hts
            exact (step_len hT h t ts x c hop hb (by apply Array.ext'; rw [hx]) hts K).run hr
          · cases hr
        · cases hr
      · cases hc
      · exact (step_min h c hop hb K).run hr
      · exact (step_max h c hop hb K).run hr
      · cases hr
    · rename_i f hf
      simp only [hf] at hc
      cases hc
    · cases hr
  | _ => rw [hop] at hc; cases hc

open Classical in
/-- What stays: what is claimed, and the cells of the blocks bs. -/
noncomputable def keptM (bs : List Nat) (ρ : List Nat) (M : Mem) (w : World) : Mem := fun g o => if ∃ b, b ∈ bs ∧ ρ[b]? = some g then w.cell? ⟨g, o, none⟩ else M g o

theorem keptM_at {bs ρ : List Nat} {M : Mem} {w : World} {b g o : Nat} (hb : b ∈ bs) (hg : ρ[b]? = some g) : keptM bs ρ M w g o = w.cell? ⟨g, o, none⟩ := by
  unfold keptM
  rw [if_pos ⟨b, hb, hg⟩]

theorem keptM_cases (bs ρ : List Nat) (M : Mem) (w : World) (g o : Nat) : (∃ b, b ∈ bs ∧ ρ[b]? = some g) ∧ keptM bs ρ M w g o = w.cell? ⟨g, o, none⟩ ∨ (¬ ∃ b, b ∈ bs ∧ ρ[b]? = some g) ∧ keptM bs ρ M w g o = M g o := by
  unfold keptM
  by_cases h : ∃ b, b ∈ bs ∧ ρ[b]? = some g
  · left; exact ⟨h, by rw [if_pos h]⟩
  · right; exact ⟨h, by rw [if_neg h]⟩

theorem keptM_agree {bs ρ : List Nat} {M : Mem} {w : World} (h : ∀ g o c, M g o = some c → w.cell? ⟨g, o, none⟩ = some c) : Agree (keptM bs ρ M w) w := by
  intro g o c hc
  rcases keptM_cases bs ρ M w g o with ⟨_, e⟩ | ⟨_, e⟩
  · rw [← hc, e]
  · exact h g o c (by rw [← e]; exact hc)

theorem keptM_le {bs ρ : List Nat} {M : Mem} {w : World} (h : ∀ g o c, M g o = some c → w.cell? ⟨g, o, none⟩ = some c) : MLe M (keptM bs ρ M w) := by
  intro g o c hc
  rcases keptM_cases bs ρ M w g o with ⟨_, e⟩ | ⟨_, e⟩
  · rw [e]; exact h g o c hc
  · rw [e]; exact hc

/-- A load of what stays. -/
theorem load_run (hT : TysOK P cx) {O : Oracle} {hc : List (Nat × List AVal)} {Own : Owner} {ρ : List Nat} {M : Mem} (hs : RS B s a.tmps w Own ρ M) (hl : isLoad o = true) (hq : quietA s hc o = true) {ms : List Nat} {K : KV} {r : Res} (hr : stepA cx O o ms s K = some r) :
    ∃ u, ∀ w', Agree (keptM (hc.map (·.1)) ρ M w) w' → (execOp a.eval o).run P w' = .ok (.value u) w' := by
  unfold isLoad at hl
  unfold quietA at hq
  unfold stepA at hr
  cases hop : o.op with
  | load t x =>
    simp only [hop] at hr hq
    split at hr
    · rename_i d hd
      have hty := hT t d hd
      have fin : ∀ g off (us : List Value), a.eval x = .pointer (some ⟨g, off, none⟩) → us.length = d.size → (∀ (j : Nat) u, us[j]? = some u → keptM (hc.map (·.1)) ρ M w g (off + j) = some u) →
          ∃ u, ∀ w', Agree (keptM (hc.map (·.1)) ρ M w) w' → (execOp a.eval o).run P w' = .ok (.value u) w' := by
        intro g off us hx hul hus
        refine ⟨valOf d us, fun w' hag => ?_⟩
        have := run_loadAt_cells (P := P) (w := w') hty g off us hul (fun j u hu => hag g (off + j) u (hus j u hu))
        simp [execOp, hop, hx, this]
      have hr : ∃ m, loadA s d m (s.rdo none x) K = some r := by
        rcases loadN_0 hr with h | h
        · exact ⟨_, h⟩
        · exact ⟨_, h⟩
      obtain ⟨m, hr⟩ := hr
      unfold loadA at hr
      split at hr
      · rename_i b off hb
        have hv := rdo_pure hs none x (by rw [hb]; rfl)
        rw [hb] at hv
        simp only [V] at hv
        obtain ⟨g, hg, hv⟩ := hv
        simp only [hb] at hq
        split at hr
        · cases hr
        · cases hr
        · rename_i cs hne hcs
          split at hr
          · cases hr
          · rename_i v hl
            obtain ⟨g', us, hg', hul, hus, _⟩ := peek (hs.heap b cs hcs hne) hl hty.one
            rw [hg] at hg'; cases hg'
            exact fin g off us hv hul fun j u hu => by rw [keptM_at (inL_iff.1 hq) hg]; exact hus j u hu
      · rename_i cs hb
        have hv := rdo_pure hs none x (by rw [hb]; rfl)
        rw [hb] at hv
        simp only [V] at hv
        obtain ⟨g, off, hv, hcl⟩ := hv
        split at hr
        · rename_i v hl
          obtain ⟨h1, h2⟩ := loadC_take hl hty.one
          simp only [List.drop_zero] at h1
          have hsz : d.size ≤ cs.length := by simp at h1; omega
          obtain ⟨us, hul, hus⟩ := VC_cells hs.wi g cs off hcl
          rw [VC_iff] at hcl
          refine fin g off (us.take d.size) hv (by simp; omega) fun j u hu => ?_
          rw [List.getElem?_take] at hu
          split at hu
          · rename_i hj
            obtain ⟨m1, m2, m3⟩ := hus j u hu
            have hjl : j < cs.length := by omega
            obtain ⟨c, hc1, _⟩ := hcl j cs[j] (List.getElem?_eq_getElem hjl)
            have e := (hs.wi.agree g (off + j) c hc1).1
            rw [m1] at e; cases e
            exact keptM_le (fun g o c h => (hs.wi.agree g o c h).1) _ _ _ hc1
          · cases hu
        · cases hr
      · rename_i u i hb
        simp only [hb] at hq
        cases hq
      · cases hr
    · cases hr
  | _ => rw [hop] at hl; cases hl

theorem S.set_same {s : S} {t : Nat} {b : Bool} (h : lget s.env t = .bool b) : s.set t (.bool b) = s := by
  have hg : s.env[t]? = some (.bool b) := by
    rw [lget_eq, List.getD] at h
    cases hx : s.env[t]? with
    | none => simp [hx] at h
    | some y => simp [hx] at h; rw [h]
  rw [S.set_def]
  rw [h]
  simp only [AVal.uniq]
  have : s.env.set t (.bool b) = s.env := by
    apply List.ext_getElem?
    intro i
    rw [List.getElem?_set]
    split
    · rename_i e; subst e
      have hlt := (List.getElem?_eq_some_iff.1 hg).1
      rw [if_pos hlt, hg]
    · rfl
  rw [this]

/-- One operation that leaves the world as it is, carried out. -/
theorem op1_early (hT : TysOK P cx) (hE : EqOK P cx) {O : Oracle} (hO : OracleOK P O) {ops : Array Oper} {m : List Nat} {K : S → Option Res} {r : Res} {St : World → Prop} (h : RSx B s a.tmps w) (hr : op1A cx O ops o m s K = some r)
    (hrun : ∀ (K : KV), stepA cx O o m s K = some r → ∃ u, ∀ w', St w' → (execOp a.eval o).run P w' = .ok (.value u) w') (hS : St w) :
    ∃ u s', K s' = some r ∧ RSx B s' (a.put o.dst u).tmps w ∧ YieldsIf P ops St o u a := by
  have run : Region.wanted o (yielded ops a.tmps) = true → (stepA cx O o m s fun v s => K (s.put o.dst v)) = some r → ∃ u s', K s' = some r ∧ RSx B s' (a.put o.dst u).tmps w ∧ YieldsIf P ops St o u a := by
    intro hw hr
    obtain ⟨u, hu⟩ := hrun _ hr
    have := stepA_ok hT hE hO h m _ r hr (fun a' w' => ∃ s', K s' = some r ∧ RSx B s' a'.tmps w') (fun _ _ _ => False) fun v s' v' w' hK hf => ⟨_, hK, hf.put o.dst⟩
    unfold Oper.wp at this
    rw [hu w hS] at this
    obtain ⟨s', h1, h2⟩ := this
    exact ⟨u, s', h1, h2, .inl ⟨hw, hu⟩⟩
  unfold op1A at hr
  split at hr
  · rename_i hg
    exact run (by simp [Region.wanted, hg]) hr
  · rename_i j want hg
    split at hr
    · cases hr
    · rename_i t ht
      have hy : ∀ b, a.tmps[t]? = some (.bool b) → yielded ops a.tmps j = some b := fun b hb => by simp [yielded, ht, hb]
      have skip : ∀ {K'}, K' = K → Region.wanted o (yielded ops a.tmps) = false → K' (s.put o.dst (.tup [])) = some r → RSx B (s.put o.dst (.tup [])) (a.put o.dst undef).tmps w → ∃ u s', K s' = some r ∧ RSx B s' (a.put o.dst u).tmps w ∧ YieldsIf P ops St o u a := by
        rintro _ rfl hw hK hR
        exact ⟨undef, _, hK, hR, .inr ⟨hw, rfl⟩⟩
      split at hr
      · rename_i b hb
        have hyb := hy b (h.slotBool hb)
        have hw : Region.wanted o (yielded ops a.tmps) = (b == want) := by simp only [Region.wanted, hg, hyb]; cases b <;> cases want <;> rfl
        cases b
        · rw [S.set_same hb] at hr
          cases want
          · exact run (by rw [hw]; rfl) hr
          · exact skip rfl (by rw [hw]; rfl) hr (h.skip o.dst)
        · rw [S.set_same hb] at hr
          cases want
          · exact skip rfl (by rw [hw]; rfl) hr (h.skip o.dst)
          · exact run (by rw [hw]; rfl) hr
      · rename_i hb
        have hyn : yielded ops a.tmps j = none := by simp [yielded, ht, h.slotTup hb]
        exact skip rfl (by simp [Region.wanted, hg, hyn]) hr (h.skip o.dst)
      · cases hr

end
end Go.Proofs.YtognccpmaljamaaGreatDoor.Sa

/- AS, part S25: variables made at any time; what each step of a plan leaves. -/
namespace Go.Proofs.YtognccpmaljamaaGreatDoor.Sa
open Go
variable [GlobMem]

theorem unowned {w w' : World} {O Own' : Owner} {M M' : Mem} {ρ ρ' : List Nat} {s' : S} {tm' : Array Value} (h' : RS (bs0 O w M ρ) s' tm' w' Own' ρ' M') {g : Nat} (hO : O g = none) (hM : ∀ o, M g o = none) (hg : g < w.heap.size) :
    Own' g = none ∧ (∀ o, M' g o = none) ∧ w'.heap[g]? = w.heap[g]? := by
  refine ⟨?_, fun o => ?_, h'.fr.keep g hg (fun e => e hO)⟩
  · cases hq : Own' g with
    | none => rfl
    | some q =>
      rcases h'.own0 g q hq with k | k
      · exact absurd hO k
      · have : w.heap.size ≤ g := k
        omega
  · cases hq : M' g o with
    | none => rfl
    | some c =>
      rcases h'.mnew g o c hq with k | k | k
      · rw [show (bs0 O w M ρ).M = M from rfl, hM o] at k; cases k
      · exact absurd hO k
      · have : w.heap.size ≤ g := k
        omega

/-- A variable's block that was made and not yet told of. -/
structure FB (td : TD) (tm : Array Value) (w : World) (B : Base) (Own OwnH : Owner) (M : Mem) (d g : Nat) : Prop where
  tmp : tm[d]? = some (.pointer (some ⟨g, 0, none⟩))
  blk : ∃ arr e, w.heap[g]? = some (.cells arr e (0, 0)) ∧ arr.size = td.zero.length ∧ ∀ (o : Nat) (a : AVal) (v : Value), td.zero[o]? = some a → arr[o]? = some v → v.oneCell' = true ∧ ∀ (Own : Owner) (w : World) (ρ : List Nat) (M : Mem) (ℓ : List Nat → Loc), Hold Own w ρ M ℓ a v
  own : Own g = none
  ownH : OwnH g = none
  unc : ∀ o, M g o = none
  lt : g < w.heap.size
  inn : B.F g ∨ B.w.heap.size ≤ g

theorem FB.step {td : TD} {tm tm' : Array Value} {w w' : World} {B : Base} {O Own Own' OwnH OwnH' : Owner} {M M' : Mem} {ρ ρ' : List Nat} {s' : S} {d g : Nat} (h : FB td tm w B Own OwnH M d g) (h' : RS (bs0 O w M ρ) s' tm' w' Own' ρ' M') (hO : O g = none)
    (ht : tm'[d]? = tm[d]?) {O2 : Owner} (h2 : Own' g = none → O2 g = none) (hH : Own' g = none → OwnH' g = none) : FB td tm' w' B O2 OwnH' M' d g := by
  obtain ⟨k1, k2, k3⟩ := unowned h' hO h.unc h.lt
  obtain ⟨arr, e, b1, b2⟩ := h.blk
  exact ⟨by rw [ht]; exact h.tmp, ⟨arr, e, by rw [k3]; exact b1, b2⟩, h2 k1, hH k1, k2, Nat.lt_of_lt_of_le h.lt h'.fr.size, h.inn⟩

noncomputable def slotF (ops : Array Oper) (i : Nat) : Nat := match ops[i]? with
  | some o => (match allocK o with | some (_, d) => d | none => 0)
  | none => 0

structure DInv (cx : Cx) (ops : Array Oper) (B : Base) (s : S) (tm : Array Value) (w : World) (Own : Owner) (ρ : List Nat) (M : Mem) (OwnH : Owner) (hc : List (Nat × List AVal)) (fl : List Nat) (df : Nat → Option Nat) : Prop where
  hs : HS B s tm w Own ρ M OwnH hc
  flo : ∀ i, i ∈ fl → ∃ o t d td, ops[i]? = some o ∧ allocK o = some (t, d) ∧ cx.ty.find t = some td ∧ s.env[d]? = some .undef ∧ ∀ g, df i = some g → FB td tm w B Own OwnH M d g
  nd : (fl.map (slotF ops)).Nodup
  inj : ∀ i, i ∈ fl → ∀ j, j ∈ fl → ∀ g, df i = some g → df j = some g → i = j

theorem slotF_of {ops : Array Oper} {i : Nat} {o : Oper} {t d : Nat} (h : ops[i]? = some o) (hk : allocK o = some (t, d)) : slotF ops i = d := by simp [slotF, h, hk]

theorem allocK_spec {o : Oper} {t d : Nat} (h : allocK o = some (t, d)) : o.op = .alloc t ∧ o.dst = some d ∧ o.guard = none := by
  unfold allocK at h
  split at h
  · rename_i t' hop
    split at h
    · rename_i d' hd
      split at h
      · rename_i hg
        cases h
        exact ⟨hop, hd, hg⟩
      · cases h
    · cases h
  · cases h

theorem stillF_spec {env : List AVal} : ∀ {ds : List Nat}, stillF env ds = true → ∀ d, d ∈ ds → env[d]? = some .undef
  | [], _, d, h => by cases h
  | e :: ds, hs, d, h => by
    unfold stillF at hs
    split at hs
    · rename_i he
      rcases List.mem_cons.1 h with rfl | h
      · exact he
      · exact stillF_spec hs d h
    · cases hs

theorem stillH_spec {heap : List (List AVal)} : ∀ {hc : List (Nat × List AVal)}, stillH heap hc = true → ∀ b cs, (b, cs) ∈ hc → heap[b]? = some []
  | [], _, b, cs, h => by cases h
  | (c, ds) :: hc, hs, b, cs, h => by
    unfold stillH at hs
    split at hs
    · rename_i he
      rcases List.mem_cons.1 h with e | h
      · cases e; exact he
      · exact stillH_spec hs b cs h
    · cases hs

theorem fullH_spec {heap : List (List AVal)} : ∀ {hc : List (Nat × List AVal)}, fullH heap hc = true → ∀ b, b ∈ hc.map (·.1) → ∃ c cs, heap[b]? = some (c :: cs)
  | [], _, b, h => by cases h
  | (c, ds) :: hc, hs, b, h => by
    unfold fullH at hs
    split at hs
    · rename_i x xs he
      rw [List.map_cons, List.mem_cons] at h
      rcases h with e | h
      · exact ⟨x, xs, by rw [e]; exact he⟩
      · exact fullH_spec hs b h
    · cases hs

theorem apartL_spec {ops : Array Oper} {o : Oper} : ∀ {fl : List Nat}, apartL ops o fl = true → ∀ f, f ∈ fl → ∃ of, ops[f]? = some of ∧ of.apart ops o = true
  | [], _, f, h => by cases h
  | g :: fl, hs, f, h => by
    unfold apartL at hs
    split at hs
    · rename_i of he
      split at hs
      · rename_i ha
        rcases List.mem_cons.1 h with rfl | h
        · exact ⟨of, he, ha⟩
        · exact apartL_spec hs f h
      · cases hs
    · cases hs

theorem tmps_put {a : Act} {dst : Option Nat} {u : Value} {d : Nat} (h : dst ≠ some d) : (a.put dst u).tmps[d]? = a.tmps[d]? := by
  rw [Act.put_tmps]
  cases dst with
  | none => rfl
  | some e => simp only [Array.getElem?_setIfInBounds]; rw [if_neg (fun c => h (by rw [c]))]

theorem keptM_mono {bs ρ ρ' : List Nat} {M M' : Mem} {w w' : World} (hρ : Ext ρ ρ') (hM : MLe M M') (hag : ∀ g o c, M' g o = some c → w'.cell? ⟨g, o, none⟩ = some c) (hw : ∀ b g o, b ∈ bs → ρ[b]? = some g → w'.cell? ⟨g, o, none⟩ = w.cell? ⟨g, o, none⟩) :
    MLe (keptM bs ρ M w) (keptM bs ρ' M' w') := by
  intro g o c hc
  rcases keptM_cases bs ρ M w g o with ⟨⟨b, hb, hg⟩, e⟩ | ⟨_, e⟩
  · rw [keptM_at hb (hρ _ _ hg), hw b g o hb hg, ← e]; exact hc
  · rw [e] at hc
    exact keptM_le hag _ _ _ (hM _ _ _ hc)

section
variable {P : Program} {cx : Cx} {ops : Array Oper} {B : Base} {a : Act} {w : World} {s : S} {Own OwnH : Owner} {ρ : List Nat} {M : Mem} {hc : List (Nat × List AVal)} {fl : List Nat} {df : Nat → Option Nat}

theorem HS.cells {tm : Array Value} (h : HS B s tm w Own ρ M OwnH hc) {b g : Nat} (hb : b ∈ hc.map (·.1)) (hg : ρ[b]? = some g) : OwnH g = some (.var b) := by
  obtain ⟨⟨b', cs⟩, hm, rfl⟩ := List.mem_map.1 hb
  obtain ⟨_, g', arr, e, h1, h2, _⟩ := h.blk b' cs hm
  have : g' = g := by have := h1.symm.trans hg; exact Option.some.inj this
  subst this
  exact h2

theorem RS.undefTm {tm : Array Value} (h : RS B s tm w Own ρ M) {d : Nat} {v : Value} (hd : s.env[d]? = some .undef) : RS B s (tm.setIfInBounds d v) w Own ρ M where
  wi := h.wi
  fr := h.fr
  mle := h.mle
  glob := h.glob
  ext := h.ext
  own0 := h.own0
  mnew := h.mnew
  len := by rw [Array.size_setIfInBounds]; exact h.len
  env t x u hx hu := by
    by_cases e : d = t
    · subst e
      rw [hd] at hx; cases hx
      exact SlotOK_undef
    · rw [Array.getElem?_setIfInBounds, if_neg e] at hu
      refine (h.env t x u hx hu).move (Ext.refl _) (MLe.refl _) (fun g p hg => ⟨hg, rfl⟩) fun u' b' hr' hb' hu' => ⟨b', hb', hu', ?_⟩
      rw [Array.getElem?_setIfInBounds, if_neg]
      intro e2
      subst e2
      rw [hd] at hb'; cases hb'
      simp [AVal.uniq] at hu'
  hlen := h.hlen
  heap := h.heap

theorem RS.setFrom {tm : Array Value} (h : RS B s tm w Own ρ M) {d b o : Nat} {v : Value} (hd : s.env[d]? = some .undef) (ht : tm[d]? = some v) (hv : V ρ M (.ptr b o) v) : RS B (s.set d (.ptr b o)) tm w Own ρ M where
  wi := h.wi
  fr := h.fr
  mle := h.mle
  glob := h.glob
  ext := h.ext
  own0 := h.own0
  mnew := h.mnew
  len := by rw [S.set_length]; exact h.len
  env t x u hx hu := by
    rcases S.set_get hx with ⟨e, _, hcs⟩ | ⟨hne, y, hb, hcs⟩
    · subst e
      rcases hcs with ⟨rfl, _⟩ | rfl
      · rw [ht] at hu; cases hu
        simp only [SlotOK, Hold, AVal.uniq]
        exact hv
      · exact SlotOK_undef
    · rcases hcs with ⟨rfl, hr⟩ | rfl
      · refine (h.env t _ u hb hu).move (Ext.refl _) (MLe.refl _) (fun g p hg => ⟨hg, rfl⟩) fun u' b' hr' hb' hu' => ?_
        have hne' : u' ≠ d := fun e => by subst e; rw [hd] at hb'; cases hb'; simp [AVal.uniq] at hu'
        exact ⟨b', S.set_keeps hne' hb' hu', hu', rfl⟩
      · exact SlotOK_undef
  hlen := by rw [S.set_heap]; exact h.hlen
  heap b cs hb hne := h.heap b cs (by rwa [S.set_heap] at hb) hne

/-- A new block that nobody knows of. -/
theorem RS.grow {tm : Array Value} (h : RS B s tm w Own ρ M) {w' : World} {obj : Obj} (hh : w'.heap = w.heap.push obj) (hos : w'.os = w.os) (ht : w'.tape = w.tape) (ho : w'.output = w.output) :
    RS B s tm w' Own ρ M ∧ w'.heap[w.heap.size]? = some obj ∧ (∀ g, g ≠ w.heap.size → w'.heap[g]? = w.heap[g]?) ∧ w'.heap.size = w.heap.size + 1 := by
  have hsz : w'.heap.size = w.heap.size + 1 := by rw [hh, Array.size_push]
  have hold : ∀ g, g ≠ w.heap.size → w'.heap[g]? = w.heap[g]? := fun g hg => by
    rw [hh, Array.getElem?_push, if_neg hg]
  refine ⟨h.away ?_ (h.fr.to hos ht ho (by omega) fun g hg _ => hold g (by have := h.fr.size; omega)) h.own0 fun g q _ hg => ⟨hg, hold g (by have := h.wi.lt g q hg; omega)⟩, by rw [hh, Array.getElem?_push, if_pos rfl], hold, hsz⟩
  exact h.wi.to (fun g q hg => .inl ⟨q, hg⟩) (by omega) (fun g hg _ => hold g (by omega))

noncomputable def updF (df : Nat → Option Nat) (j : Nat) (x : Option Nat) : Nat → Option Nat := fun i => if i = j then x else df i
theorem updF_here {j : Nat} {x : Option Nat} : updF df j x j = x := by simp [updF]
theorem updF_other {i j : Nat} {x : Option Nat} (h : i ≠ j) : updF df j x i = df i := by simp [updF, h]

theorem slots_ne {fl : List Nat} (hn : (fl.map (slotF ops)).Nodup) : ∀ {i j : Nat}, i ∈ fl → j ∈ fl → i ≠ j → slotF ops i ≠ slotF ops j := by
  induction fl with
  | nil => intro i j h; cases h
  | cons k fl ih =>
    intro i j hi hj hij
    rw [List.map_cons, List.nodup_cons] at hn
    rcases List.mem_cons.1 hi with e1 | hi'
    · rcases List.mem_cons.1 hj with e2 | hj'
      · exact absurd (e1.trans e2.symm) hij
      · intro e; exact hn.1 (by rw [← e1, e]; exact List.mem_map.2 ⟨j, hj', rfl⟩)
    · rcases List.mem_cons.1 hj with e2 | hj'
      · intro e; exact hn.1 (by rw [← e2, ← e]; exact List.mem_map.2 ⟨i, hi', rfl⟩)
      · exact ih hn.2 hi' hj' hij

/-- A variable is made now. -/
theorem float_do (hT : TysOK P cx) (h : DInv cx ops B s a.tmps w Own ρ M OwnH hc fl df) {j : Nat} (hj : j ∈ fl) (hdj : df j = none) (Q : Exit → Act → World → Prop) (K : Act → World → Prop)
    (hK : ∀ g a' w', DInv cx ops B s a'.tmps w' Own ρ M OwnH hc fl (updF df j (some g)) → a'.defers = a.defers → MLe (keptM (hc.map (·.1)) ρ M w) (keptM (hc.map (·.1)) ρ M w') → Agree (keptM (hc.map (·.1)) ρ M w') w' → K a' w') :
    wpOp P ops Q j K a w := by
  obtain ⟨o, t, d, td, ho, hk, hty, henv, _⟩ := h.flo j hj
  obtain ⟨hop, hdst, hgd⟩ := allocK_spec hk
  obtain ⟨i, z, hi, hs, _, hz, hl, _, hzc⟩ := (hT t td hty).zero
  have hrun : (execOp a.eval o).run P w = .ok (.value (.pointer (some ⟨w.heap.size, 0, none⟩))) { w with heap := w.heap.push (.cells z.cells t (0, 0)) } := by
    simp [execOp, hop, Instr.alloc, zeroValue, typeInfo, hi, hz, newVar, newRow, -run_newObj_alloc, -World.alloc_eq]
  unfold wpOp
  simp only [ho]
  rw [if_pos (by simp [Region.wanted, hgd])]
  refine .inl ?_
  unfold Oper.wp
  rw [hrun]
  have hrs := h.hs.rs
  obtain ⟨hg1, hgn, hgo, hsz⟩ := hrs.grow (w' := { w with heap := w.heap.push (.cells z.cells t (0, 0)) }) rfl rfl rfl rfl
  have hd' : d < a.tmps.size := by rw [hrs.len]; exact (List.getElem?_eq_some_iff.1 henv).1
  have hag : ∀ g o c, M g o = some c → ({ w with heap := w.heap.push (.cells z.cells t (0, 0)) } : World).cell? ⟨g, o, none⟩ = some c := fun g o c hc => (hg1.wi.agree g o c hc).1
  have hfresh : ∀ o, M w.heap.size o = none := fun o => by
    cases hq : M w.heap.size o with
    | none => rfl
    | some c =>
      have := (hrs.wi.agree _ _ _ hq).1
      simp [World.cell?] at this
  refine hK w.heap.size (a.put o.dst (.pointer (some ⟨w.heap.size, 0, none⟩))) { w with heap := w.heap.push (.cells z.cells t (0, 0)) } ⟨⟨?_, h.hs.nd, h.hs.hid, fun b cs hb => ?_, fun g ℓ hg => ?_⟩, fun x hx => ?_, h.nd, fun x hx y hy g hgx hgy => ?_⟩ (Act.put_def _ _ _) ?_ (keptM_agree hag)
  · rw [Act.put_tmps, hdst]; exact hg1.undefTm henv
  · obtain ⟨k1, k2⟩ := h.hs.blk b cs hb
    have ne : ∀ g ℓ, OwnH g = some ℓ → g ≠ w.heap.size := fun g ℓ hg => by have := (h.hs.own g ℓ hg).2.2.1; omega
    exact ⟨k1, k2.move (Ext.refl _) (MLe.refl _) (fun g hg => ⟨hg, hgo g (ne g _ hg)⟩) (fun g o hg => ⟨hg, hgo g (ne g _ hg)⟩)⟩
  · obtain ⟨h1, h2, h3, h4⟩ := h.hs.own g ℓ hg
    exact ⟨h1, h2, by omega, h4⟩
  · obtain ⟨o', t', d', td', ho', hk', hty', henv', hfb⟩ := h.flo x hx
    refine ⟨o', t', d', td', ho', hk', hty', henv', fun g hg => ?_⟩
    by_cases e : x = j
    · subst e
      rw [ho] at ho'; cases ho'
      rw [hk] at hk'; cases hk'
      rw [hty] at hty'; cases hty'
      rw [updF_here] at hg; cases hg
      refine ⟨by rw [Act.put_tmps, hdst]; simp [hd'], ⟨z.cells, t, hgn, hl, fun o b u hb hu => ?_⟩, ?_, ?_, hfresh, by omega, ?_⟩
      · exact zeroCell_hold (hzc o b u hb hu)
      · cases hq : Own w.heap.size with
        | none => rfl
        | some q => have := hrs.wi.lt _ _ hq; omega
      · cases hq : OwnH w.heap.size with
        | none => rfl
        | some q => have := (h.hs.own _ _ hq).2.2.1; omega
      · right; exact hrs.fr.size
    · rw [updF_other e] at hg
      have hb := hfb g hg
      obtain ⟨arr, e', b1, b2⟩ := hb.blk
      have hne : d ≠ d' := by
        have := slots_ne h.nd hj hx (Ne.symm e)
        rwa [slotF_of ho hk, slotF_of ho' hk'] at this
      refine ⟨?_, ⟨arr, e', by rw [hgo g (by have := hb.lt; omega)]; exact b1, b2⟩, hb.own, hb.ownH, hb.unc, by have := hb.lt; omega, hb.inn⟩
      rw [tmps_put (by rw [hdst]; intro c; cases c; exact hne rfl)]
      exact hb.tmp
  · have lt : ∀ x, x ∈ fl → x ≠ j → df x = some g → g < w.heap.size := fun x hx hne hg => by
      obtain ⟨_, _, _, _, _, _, _, _, hfb⟩ := h.flo x hx
      exact (hfb g hg).lt
    by_cases e1 : x = j
    · by_cases e2 : y = j
      · rw [e1, e2]
      · rw [e1, updF_here] at hgx; cases hgx
        rw [updF_other e2] at hgy
        have := lt y hy e2 hgy; omega
    · by_cases e2 : y = j
      · rw [e2, updF_here] at hgy; cases hgy
        rw [updF_other e1] at hgx
        have := lt x hx e1 hgx; omega
      · rw [updF_other e1] at hgx
        rw [updF_other e2] at hgy
        exact h.inj x hx y hy g hgx hgy
  · refine keptM_mono (Ext.refl _) (MLe.refl _) hag fun b g o hb hg => cell_congr (hgo g ?_)
    have := (h.hs.own g _ (h.hs.cells hb hg)).2.2.1
    omega

/-- Behind an operation that ran while some blocks were hidden. -/
theorem DInv.go (h : DInv cx ops B s a.tmps w Own ρ M OwnH hc fl df) {s' : S} {dst : Option Nat} {u : Value} {w' : World} {Own' : Owner} {ρ' : List Nat} {M' : Mem} (h' : RS (bs0 Own w M ρ) s' (a.put dst u).tmps w' Own' ρ' M')
    (hh : stillH s'.heap hc = true) (hf : stillF s'.env (fl.map (slotF ops)) = true) (hap : ∀ f, f ∈ fl → dst ≠ some (slotF ops f)) :
    DInv cx ops B s' (a.put dst u).tmps w' Own' ρ' M' OwnH hc fl df ∧ MLe (keptM (hc.map (·.1)) ρ M w) (keptM (hc.map (·.1)) ρ' M' w') ∧ Agree (keptM (hc.map (·.1)) ρ' M' w') w' := by
  have hag : ∀ g o c, M' g o = some c → w'.cell? ⟨g, o, none⟩ = some c := fun g o c hc => (h'.wi.agree g o c hc).1
  refine ⟨⟨h.hs.step h' (stillH_spec hh), fun x hx => ?_, h.nd, h.inj⟩, keptM_mono h'.ext h'.mle hag fun b g o hb hg => ?_, keptM_agree hag⟩
  · obtain ⟨o, t, d, td, ho, hk, hty, henv, hfb⟩ := h.flo x hx
    have hsl := slotF_of ho hk
    refine ⟨o, t, d, td, ho, hk, hty, stillF_spec hf d (by rw [← hsl]; exact List.mem_map.2 ⟨x, hx, rfl⟩), fun g hg => ?_⟩
    have hb := hfb g hg
    exact hb.step h' hb.own (tmps_put (by rw [← hsl]; exact hap x hx)) id (fun _ => hb.ownH)
  · obtain ⟨h1, h2, h3, _⟩ := h.hs.own g _ (h.hs.cells hb hg)
    exact cell_congr (unowned h' h1 h2 h3).2.2

/-- Behind an operation that ran while nothing was hidden; from there on nothing is. -/
theorem DInv.goall (h : DInv cx ops B s a.tmps w Own ρ M OwnH hc fl df) {s' : S} {dst : Option Nat} {u : Value} {w' : World} {Own' : Owner} {ρ' : List Nat} {M' : Mem} (h' : RS (bs0 (orO Own OwnH) w M ρ) s' (a.put dst u).tmps w' Own' ρ' M')
    (hf : stillF s'.env (fl.map (slotF ops)) = true) (hap : ∀ f, f ∈ fl → dst ≠ some (slotF ops f)) :
    DInv cx ops B s' (a.put dst u).tmps w' Own' ρ' M' (fun _ => none) [] fl df ∧ Agree (keptM [] ρ' M' w') w' := by
  have hag : ∀ g o c, M' g o = some c → w'.cell? ⟨g, o, none⟩ = some c := fun g o c hc => (h'.wi.agree g o c hc).1
  refine ⟨⟨⟨h.hs.show.rebase h', List.nodup_nil, fun b cs hb => (by cases hb), fun b cs hb => (by cases hb), fun g ℓ hg => (by cases hg)⟩, fun x hx => ?_, h.nd, h.inj⟩, keptM_agree hag⟩
  obtain ⟨o, t, d, td, ho, hk, hty, henv, hfb⟩ := h.flo x hx
  have hsl := slotF_of ho hk
  refine ⟨o, t, d, td, ho, hk, hty, stillF_spec hf d (by rw [← hsl]; exact List.mem_map.2 ⟨x, hx, rfl⟩), fun g hg => ?_⟩
  have hb := hfb g hg
  exact hb.step h' (by simp [orO, hb.own, hb.ownH]) (tmps_put (by rw [← hsl]; exact hap x hx)) id (fun _ => rfl)

theorem fullL_spec {heap : List (List AVal)} : ∀ {bs : List Nat}, bs.Nodup → (fullL heap bs).Nodup ∧ ∀ b, b ∈ fullL heap bs → b ∈ bs ∧ ∃ c cs, heap[b]? = some (c :: cs)
  | [], _ => ⟨List.nodup_nil, fun b hb => (by cases hb)⟩
  | b :: bs, hn => by
    obtain ⟨h1, h2⟩ := List.nodup_cons.1 hn
    obtain ⟨k1, k2⟩ := fullL_spec (heap := heap) h2
    unfold fullL
    split
    · rename_i c cs he
      refine ⟨List.nodup_cons.2 ⟨fun h => h1 (k2 b h).1, k1⟩, fun x hx => ?_⟩
      rcases List.mem_cons.1 hx with e | hx
      · rw [e]; exact ⟨List.mem_cons_self .., c, cs, he⟩
      · exact ⟨List.mem_cons_of_mem _ (k2 x hx).1, (k2 x hx).2⟩
    · exact ⟨k1, fun x hx => ⟨List.mem_cons_of_mem _ (k2 x hx).1, (k2 x hx).2⟩⟩

/-- Blocks are hidden. -/
theorem DInv.rehide {tm : Array Value} (h : DInv cx ops B s tm w Own ρ M (fun _ => none) [] fl df) {bs : List Nat} (hn : bs.Nodup) (hb : ∀ b, b ∈ bs → ∃ c cs, s.heap[b]? = some (c :: cs)) :
    DInv cx ops B { s with heap := (hideAll s.heap bs).2 } tm w (outO bs Own) ρ M (inO bs Own) (hideAll s.heap bs).1 fl df := by
  refine ⟨HS.hide h.hs.rs _ hn hb, fun x hx => ?_, h.nd, h.inj⟩
  obtain ⟨o, t, d, td, ho, hk, hty, henv, hfb⟩ := h.flo x hx
  refine ⟨o, t, d, td, ho, hk, hty, henv, fun g hg => ?_⟩
  have hb := hfb g hg
  exact ⟨hb.tmp, hb.blk, by simp [outO, hb.own], by simp [inO, hb.own], hb.unc, hb.lt, hb.inn⟩

/-- Behind an operation taken ahead. -/
theorem DInv.early (h : DInv cx ops B s a.tmps w Own ρ M OwnH hc fl df) {s' : S} {dst : Option Nat} {u : Value} {Own' : Owner} {ρ' : List Nat} {M' : Mem} (h' : RS (bs0 (orO Own OwnH) w M ρ) s' (a.put dst u).tmps w Own' ρ' M')
    (hh : fullH s'.heap hc = true) (hf : stillF s'.env (fl.map (slotF ops)) = true) (hap : ∀ f, f ∈ fl → dst ≠ some (slotF ops f)) :
    (∃ OwnH', DInv cx ops B { s' with heap := (hideAll s'.heap (hc.map (·.1))).2 } (a.put dst u).tmps w (outO (hc.map (·.1)) Own') ρ' M' OwnH' (hideAll s'.heap (hc.map (·.1))).1 fl df) ∧ MLe (keptM (hc.map (·.1)) ρ M w) (keptM (hc.map (·.1)) ρ' M' w) ∧ Agree (keptM (hc.map (·.1)) ρ' M' w) w ∧ (hideAll s'.heap (hc.map (·.1))).1.map (·.1) = hc.map (·.1) := by
  have hag : ∀ g o c, M' g o = some c → w.cell? ⟨g, o, none⟩ = some c := fun g o c hc => (h'.wi.agree g o c hc).1
  refine ⟨⟨inO (hc.map (·.1)) Own', HS.hide (h.hs.show.rebase h') _ h.hs.nd (fullH_spec hh), fun x hx => ?_, h.nd, h.inj⟩, keptM_mono h'.ext h'.mle hag fun b g o hb hg => rfl, keptM_agree hag, (hideAll_spec _ _ h.hs.nd).2.1⟩
  obtain ⟨o, t, d, td, ho, hk, hty, henv, hfb⟩ := h.flo x hx
  have hsl := slotF_of ho hk
  refine ⟨o, t, d, td, ho, hk, hty, stillF_spec hf d (by rw [← hsl]; exact List.mem_map.2 ⟨x, hx, rfl⟩), fun g hg => ?_⟩
  have hb := hfb g hg
  exact hb.step h' (by simp [orO, hb.own, hb.ownH]) (tmps_put (by rw [← hsl]; exact hap x hx)) (fun e => by simp [outO, e]) (fun e => by simp [inO, e])

theorem S.set_undef {s : S} {d e : Nat} {v : AVal} (h : s.env[e]? = some .undef) (hne : d ≠ e) : (s.set d v).env[e]? = some .undef := by
  rw [S.set_def]
  split
  · simp only [List.getElem?_set, if_neg hne, unref_get, h]
    simp [unref1]
  · simp only [List.getElem?_set, if_neg hne, h]

/-- A variable may be made from now on. -/
theorem DInv.float (h : DInv cx ops B s a.tmps w Own ρ M OwnH hc fl df) {i t d : Nat} {o : Oper} {td : TD} (ho : ops[i]? = some o) (hk : allocK o = some (t, d)) (hty : cx.ty.find t = some td) (hnd : d ∉ fl.map (slotF ops)) (hi : i ∉ fl)
    (hf : stillF (s.set d .undef).env (d :: fl.map (slotF ops)) = true) : DInv cx ops B (s.set d .undef) a.tmps w Own ρ M OwnH hc (i :: fl) (updF df i none) := by
  have hsl := slotF_of ho hk
  refine ⟨⟨h.hs.rs.forget d, h.hs.nd, fun b cs hb => by rw [S.set_heap]; exact h.hs.hid b cs hb, h.hs.blk, h.hs.own⟩, fun x hx => ?_, ?_, fun x hx y hy g hgx hgy => ?_⟩
  · rcases List.mem_cons.1 hx with rfl | hx
    · exact ⟨o, t, d, td, ho, hk, hty, stillF_spec hf d (List.mem_cons_self ..), fun g hg => by rw [updF_here] at hg; cases hg⟩
    · obtain ⟨o', t', d', td', ho', hk', hty', henv', hfb⟩ := h.flo x hx
      have hsl' := slotF_of ho' hk'
      refine ⟨o', t', d', td', ho', hk', hty', stillF_spec hf d' (List.mem_cons_of_mem _ (by rw [← hsl']; exact List.mem_map.2 ⟨x, hx, rfl⟩)), fun g hg => ?_⟩
      rw [updF_other (fun e => hi (by rw [← e]; exact hx))] at hg
      exact hfb g hg
  · rw [List.map_cons, List.nodup_cons, hsl]
    exact ⟨hnd, h.nd⟩
  · have ne : ∀ z, z ∈ i :: fl → updF df i none z = some g → z ∈ fl ∧ df z = some g := fun z hz hg => by
      have e : z ≠ i := fun e => by rw [e, updF_here] at hg; cases hg
      rw [updF_other e] at hg
      exact ⟨(List.mem_cons.1 hz).resolve_left e, hg⟩
    obtain ⟨h1, h2⟩ := ne x hx hgx
    obtain ⟨h3, h4⟩ := ne y hy hgy
    exact h.inj x h1 y h3 g h2 h4

theorem mem_delL_iff {i x : Nat} : ∀ {l : List Nat}, x ∈ delL i l ↔ x ∈ l ∧ x ≠ i
  | [] => by simp [delL]
  | j :: l => by
    unfold delL
    split
    · rename_i e
      have e := Nat.eq_of_beq_eq_true e
      rw [mem_delL_iff, List.mem_cons]
      constructor
      · rintro ⟨h1, h2⟩; exact ⟨.inr h1, h2⟩
      · rintro ⟨h1 | h1, h2⟩
        · exact absurd (h1.trans e.symm) h2
        · exact ⟨h1, h2⟩
    · rename_i e
      have e := Nat.ne_of_beq_eq_false e
      rw [List.mem_cons, mem_delL_iff, List.mem_cons]
      constructor
      · rintro (h1 | ⟨h1, h2⟩)
        · exact ⟨.inl h1, fun c => e (c.symm.trans h1)⟩
        · exact ⟨.inr h1, h2⟩
      · rintro ⟨h1 | h1, h2⟩
        · exact .inl h1
        · exact .inr ⟨h1, h2⟩

theorem mem_delL {i x : Nat} {l : List Nat} (h : x ∈ delL i l) : x ∈ l := (mem_delL_iff.1 h).1
theorem delL_of {i x : Nat} {l : List Nat} (h : x ∈ l) (hne : x ≠ i) : x ∈ delL i l := mem_delL_iff.2 ⟨h, hne⟩
theorem delL_nodup {i : Nat} {l : List Nat} (_ : l.Nodup) : i ∉ delL i l := fun h => (mem_delL_iff.1 h).2 rfl

theorem delL_sub {i : Nat} : ∀ {l : List Nat}, List.Sublist (delL i l) l
  | [] => List.Sublist.refl _
  | j :: l => by
    unfold delL
    split
    · exact List.Sublist.cons _ delL_sub
    · exact List.Sublist.cons_cons _ delL_sub

/-- A variable that was made is told of. -/
theorem DInv.land (h : DInv cx ops B s a.tmps w Own ρ M OwnH hc fl df) {i t d g : Nat} {o : Oper} {td : TD} (hi : i ∈ fl) (ho : ops[i]? = some o) (hk : allocK o = some (t, d)) (hty : cx.ty.find t = some td) (hg : df i = some g) (hn : fl.Nodup) :
    ∃ Own' ρ', DInv cx ops B ({ s with heap := s.heap ++ [td.zero] }.set d (.ptr s.heap.length 0)) a.tmps w Own' ρ' M OwnH hc (delL i fl) df ∧ MLe (keptM (hc.map (·.1)) ρ M w) (keptM (hc.map (·.1)) ρ' M w) ∧ Agree (keptM (hc.map (·.1)) ρ' M w) w := by
  obtain ⟨o', t', d', td', ho', hk', hty', henv, hfb⟩ := h.flo i hi
  rw [ho] at ho'; cases ho'
  rw [hk] at hk'; cases hk'
  rw [hty] at hty'; cases hty'
  have hb := hfb g hg
  obtain ⟨arr, e, b1, b2, b3⟩ := hb.blk
  have hrs := h.hs.rs
  have hag : ∀ g o c, M g o = some c → w.cell? ⟨g, o, none⟩ = some c := fun g o c hc => (hrs.wi.agree g o c hc).1
  have ne : ∀ x ℓ, Own x = some ℓ → x ≠ g := fun x ℓ hx c => by rw [c, hb.own] at hx; cases hx
  have hO : RS B s a.tmps w (addO Own g (.var s.heap.length)) ρ M := by
    refine hrs.away ⟨hrs.wi.agree, fun x q hx o => ?_, fun x q hx => ?_⟩ hrs.fr (fun x q hx => ?_) (fun x q _ hx => ⟨by rw [addO_other (ne x q hx)]; exact hx, rfl⟩)
    all_goals
      by_cases c : x = g
      · subst c; first | exact hb.unc o | exact hb.lt | exact hb.inn
      · rw [addO_other c] at hx
        first | exact hrs.wi.free x q hx o | exact hrs.wi.lt x q hx | exact hrs.own0 x q hx
  have hnew : (ρ ++ [g])[s.heap.length]? = some g := by rw [← hrs.hlen, List.getElem?_append_right (by omega)]; simp
  have hA := hO.addBlk (g := g) (cs := td.zero) ⟨g, arr, e, hnew, addO_here, b1, b2, fun o x v hx hv => let ⟨k1, k2⟩ := b3 o x v hx hv; ⟨k1, k2 _ _ _ _ _⟩⟩
  have h2 := hA.setFrom (d := d) (b := s.heap.length) (o := 0) (v := .pointer (some ⟨g, 0, none⟩)) henv hb.tmp (by simp only [V]; exact ⟨g, hnew, rfl⟩)
  have hsl := slotF_of ho hk
  have hHg : ∀ x ℓ, OwnH x = some ℓ → x ≠ g := fun x ℓ hx c => by rw [c, hb.ownH] at hx; cases hx
  refine ⟨addO Own g (.var s.heap.length), ρ ++ [g], ⟨⟨h2, h.hs.nd, fun b cs hm => ?_, fun b cs hm => ?_, fun x ℓ hx => ?_⟩, fun x hx => ?_, ?_, fun x hx y hy => h.inj x (mem_delL hx) y (mem_delL hy)⟩, keptM_mono (Ext.append _ _) (MLe.refl _) hag (fun b g o _ _ => rfl), keptM_agree hag⟩
  · rw [S.set_heap]
    have := h.hs.hid b cs hm
    dsimp only
    rw [List.getElem?_append_left (List.getElem?_eq_some_iff.1 this).1]
    exact this
  · obtain ⟨k1, k2⟩ := h.hs.blk b cs hm
    exact ⟨k1, k2.move (Ext.append _ _) (MLe.refl _) (fun g hg => ⟨hg, rfl⟩) (fun g o hg => ⟨hg, rfl⟩)⟩
  · obtain ⟨k1, k2, k3, k4⟩ := h.hs.own x ℓ hx
    exact ⟨by rw [addO_other (hHg x ℓ hx)]; exact k1, k2, k3, k4⟩
  · have hx' := mem_delL hx
    have hxi : x ≠ i := fun c => by rw [c] at hx; exact delL_nodup hn hx
    obtain ⟨o1, t1, d1, td1, ho1, hk1, hty1, henv1, hfb1⟩ := h.flo x hx'
    have hsl1 := slotF_of ho1 hk1
    have hdd : d ≠ d1 := by
      have := slots_ne h.nd hi hx' (Ne.symm hxi)
      rwa [hsl, hsl1] at this
    refine ⟨o1, t1, d1, td1, ho1, hk1, hty1, S.set_undef henv1 hdd, fun y hy => ?_⟩
    have hb1 := hfb1 y hy
    have hyg : y ≠ g := fun c => hxi (h.inj x hx' i hi g (by rw [hy, c]) hg)
    exact ⟨hb1.tmp, hb1.blk, by rw [addO_other hyg]; exact hb1.own, hb1.ownH, hb1.unc, hb1.lt, hb1.inn⟩
  · exact h.nd.sublist (delL_sub.map _)

end
end Go.Proofs.YtognccpmaljamaaGreatDoor.Sa

/- AS, part S26: regions whose order is drawn. -/
namespace Go.Proofs.YtognccpmaljamaaGreatDoor.Sa
open Go
variable [GlobMem]

theorem wpAnyG_weaken {P : Program} {ops : Array Oper} {Q : Exit → Act → World → Prop} {md : Region.Mode} {C C1 : Mem} {E E1 : Nat → Prop} (hC : MLe C C1) (hE : ∀ i, E i → E1 i) :
    ∀ {fuel : Nat} {listed : Array Bool} {a : Act} {w : World}, wpAnyG P md ops Q fuel listed a w C1 E1 → wpAnyG P md ops Q fuel listed a w C E
  | 0, _, _, _, h => h
  | fuel + 1, _, _, _, h => ⟨h.1, fun j hj => wpOp_mono (fun a' w' ⟨C', E', hc, ha, hw⟩ => ⟨C', E', hc.imp (fun k i hi => k i (hE i hi)) (fun ⟨h1, h2⟩ => ⟨hC.trans h1, fun i hi => h2 i (hE i hi)⟩), ha, hw⟩) (h.2 j hj)⟩

theorem waits_iff {i : Nat} : ∀ {es : List Edge}, waits i es = true ↔ ∃ e, e ∈ es ∧ Region.binds .any e = true ∧ e.on = i
  | [] => by simp [waits]
  | e :: es => by
    unfold waits
    split
    · rename_i h
      rw [Bool.and_eq_true] at h
      simp only [true_iff]
      exact ⟨e, List.mem_cons_self .., h.1, Nat.eq_of_beq_eq_true h.2⟩
    · rename_i h
      rw [waits_iff]
      constructor
      · rintro ⟨x, hx, h1, h2⟩; exact ⟨x, List.mem_cons_of_mem _ hx, h1, h2⟩
      · rintro ⟨x, hx, h1, h2⟩
        rcases List.mem_cons.1 hx with rfl | hx
        · rw [h1, h2, Nat.beq_refl] at h; cases h
        · exact ⟨x, hx, h1, h2⟩

theorem waits_Waits {ops : Array Oper} {i j : Nat} {o : Oper} (ho : ops[j]? = some o) (h : waits i o.after.toList = true) : Waits .any ops j i := by
  obtain ⟨e, he, h1, h2⟩ := waits_iff.1 h
  exact ⟨o, ho, e, by simpa using he, h1, h2⟩

theorem freeA_spec {ops : Array Oper} {l : List Nat} {i : Nat} {oi : Oper} : ∀ {os : List Oper} {k : Nat}, freeA ops l i oi k os = true → ∀ j o, os[j]? = some o → k + j = i ∨ k + j ∈ l ∨ waits i o.after.toList = true ∨ oi.apart ops o = true
  | [], _, _, j, o, h => by simp at h
  | x :: os, k, hf, j, o, h => by
    unfold freeA at hf
    split at hf
    · rename_i hc
      cases j with
      | zero =>
        simp at h; subst h
        simp only [Bool.or_eq_true] at hc
        rcases hc with h1 | h1 | h1 | h1
        · exact .inl (Nat.eq_of_beq_eq_true h1)
        · exact .inr (.inl (inL_iff.1 h1))
        · exact .inr (.inr (.inl h1))
        · exact .inr (.inr (.inr h1))
      | succ j =>
        simp at h
        have := freeA_spec hf j o h
        rwa [show k + (j + 1) = k + 1 + j by omega]
    · cases hf

theorem is1_spec {i : Nat} {l : List Nat} (h : is1 i l = true) : l = [i] := by
  unfold is1 at h
  split at h
  · rw [Nat.eq_of_beq_eq_true h]
  · cases h

theorem afterIn_mono {l l' : List Nat} {es : List Edge} (h : ∀ x, x ∈ l → x ∈ l') (ha : afterIn l es = true) : afterIn l' es = true :=
  afterIn_iff.2 fun e he hb => h _ (afterIn_iff.1 ha e he hb)

/-- Those made, those not made yet. -/
noncomputable def dnF (fl : List Nat) (df : Nat → Option Nat) : List Nat := fl.filter fun i => (df i).isSome
noncomputable def unF (fl : List Nat) (df : Nat → Option Nat) : Nat := (fl.filter fun i => (df i).isNone).length

theorem mem_dnF {fl : List Nat} {df : Nat → Option Nat} {i : Nat} : i ∈ dnF fl df ↔ i ∈ fl ∧ (df i).isSome = true := by simp [dnF]

theorem unF_upd {df : Nat → Option Nat} {j g : Nat} (hd : df j = none) : ∀ {fl : List Nat}, fl.Nodup → j ∈ fl → unF fl (updF df j (some g)) + 1 = unF fl df
  | [], _, h => by cases h
  | i :: fl, hn, h => by
    obtain ⟨h1, h2⟩ := List.nodup_cons.1 hn
    by_cases e : i = j
    · subst e
      have : ∀ l : List Nat, i ∉ l → unF l (updF df i (some g)) = unF l df := by
        intro l hl
        unfold unF
        congr 1
        apply List.filter_congr
        intro x hx
        rw [updF_other (fun c => hl (by rw [← c]; exact hx))]
      have t := this fl h1
      unfold unF at t ⊢
      simp only [List.filter_cons, updF_here, hd, Option.isNone_some, Option.isNone_none, if_true, List.length_cons]
      simp only [Bool.false_eq_true, if_false]
      omega
    · have hj : j ∈ fl := (List.mem_cons.1 h).resolve_left (Ne.symm e)
      have t := unF_upd (g := g) hd h2 hj
      unfold unF at t ⊢
      simp only [List.filter_cons, updF_other e]
      split
      · simp only [List.length_cons]; omega
      · exact t

theorem unF_float {df : Nat → Option Nat} {i : Nat} {fl : List Nat} (h : i ∉ fl) : unF (i :: fl) (updF df i none) = unF fl df + 1 := by
  have : (fl.filter fun x => (updF df i none x).isNone) = fl.filter fun x => (df x).isNone := by
    apply List.filter_congr
    intro x hx
    rw [updF_other (fun c => h (by rw [← c]; exact hx))]
  unfold unF
  rw [List.filter_cons, this, updF_here]
  rfl

theorem dnF_float {df : Nat → Option Nat} {i : Nat} {fl : List Nat} (h : i ∉ fl) : dnF (i :: fl) (updF df i none) = dnF fl df := by
  have : (fl.filter fun x => (updF df i none x).isSome) = fl.filter fun x => (df x).isSome := by
    apply List.filter_congr
    intro x hx
    rw [updF_other (fun c => h (by rw [← c]; exact hx))]
  unfold dnF
  rw [List.filter_cons, this, updF_here]
  rfl

theorem unF_land {df : Nat → Option Nat} {i : Nat} (hd : (df i).isSome = true) : ∀ (fl : List Nat), unF (delL i fl) df = unF fl df
  | [] => rfl
  | j :: fl => by
    have t := unF_land hd fl
    unfold delL
    split
    · rename_i e
      have e := Nat.eq_of_beq_eq_true e
      subst e
      rw [t]
      unfold unF
      rw [List.filter_cons, if_neg]
      cases hx : df i <;> simp_all
    · unfold unF at t ⊢
      simp only [List.filter_cons]
      split <;> simp only [List.length_cons, t]

theorem Marks.congr {ops : Array Oper} {listed : Array Bool} {l l' : List Nat} (h : Marks ops listed l) (hl : ∀ x, x ∈ l ↔ x ∈ l') : Marks ops listed l' :=
  ⟨h.1, fun i hi => (h.2 i hi).trans (hl i)⟩

theorem delL_map (f : Nat → Nat) (i : Nat) : ∀ (fl : List Nat), (∀ x, x ∈ fl → f x = f i → x = i) → delL (f i) (fl.map f) = (delL i fl).map f
  | [], _ => rfl
  | j :: fl, h => by
    have t := delL_map f i fl fun x hx => h x (List.mem_cons_of_mem _ hx)
    simp only [List.map_cons, delL]
    by_cases c : i = j
    · subst c
      simp only [Nat.beq_refl, t]
    · have c' : f i ≠ f j := fun e => c (h j (List.mem_cons_self ..) e.symm).symm
      have e1 : Nat.beq i j = false := by
        cases hx : Nat.beq i j with
        | false => rfl
        | true => exact absurd (Nat.eq_of_beq_eq_true hx) c
      have e2 : Nat.beq (f i) (f j) = false := by
        cases hx : Nat.beq (f i) (f j) with
        | false => rfl
        | true => exact absurd (Nat.eq_of_beq_eq_true hx) c'
      simp only [e1, e2, t, List.map_cons]

section
variable {P : Program} {cx : Cx} {B : Base} {w0 : World}

theorem is2_spec {i j : Nat} {l : List Nat} (h : is2 i j l = true) : l = [i, j] := by
  unfold is2 at h
  split at h
  · rw [Bool.and_eq_true] at h
    rw [Nat.eq_of_beq_eq_true h.1, Nat.eq_of_beq_eq_true h.2]
  · cases h

mutual
theorem eqb_eq : ∀ (a b : AVal), a.eqb b = true → a = b
  | .undef, b, h => by cases b <;> simp_all [AVal.eqb]
  | .bool _, b, h => by cases b <;> simp_all [AVal.eqb]
  | .int _ _, b, h => by cases b <;> simp_all [AVal.eqb]
  | .str _, b, h => by cases b <;> simp_all [AVal.eqb]
  | .nilp, b, h => by cases b <;> simp_all [AVal.eqb]
  | .ptr _ _, b, h => by cases b <;> simp_all [AVal.eqb]
  | .rptr cs, b, h => by
    cases b <;> simp only [AVal.eqb, Bool.false_eq_true] at h
    rw [eqbL_eq _ _ h]
  | .eref _ _, b, h => by cases b <;> simp_all [AVal.eqb]
  | .sref _, b, h => by cases b <;> simp_all [AVal.eqb]
  | .ints _ _ _, b, h => by cases b <;> simp_all [AVal.eqb]
  | .strs _ _, b, h => by cases b <;> simp_all [AVal.eqb]
  | .strs2 _ _, b, h => by cases b <;> simp_all [AVal.eqb]
  | .rows _ _ l, b, h => by
    cases b <;> simp only [AVal.eqb, Bool.false_eq_true, Bool.and_eq_true, beq_iff_eq] at h
    obtain ⟨h1, h2, h3⟩ := h
    rw [h1, Nat.eq_of_beq_eq_true h2, eqbLL_eq _ _ h3]
  | .slen _, b, h => by cases b <;> simp_all [AVal.eqb]
  | .agg cs, b, h => by
    cases b <;> simp only [AVal.eqb, Bool.false_eq_true] at h
    rw [eqbL_eq _ _ h]
  | .tup cs, b, h => by
    cases b <;> simp only [AVal.eqb, Bool.false_eq_true] at h
    rw [eqbL_eq _ _ h]
  | .fn f cs, b, h => by
    cases b <;> simp only [AVal.eqb, Bool.false_eq_true, Bool.and_eq_true] at h
    rw [Nat.eq_of_beq_eq_true h.1, eqbL_eq _ _ h.2]
  | .nilf, b, h => by cases b <;> simp_all [AVal.eqb]
  | .nili, b, h => by cases b <;> simp_all [AVal.eqb]
theorem eqbL_eq : ∀ (l m : List AVal), eqbL l m = true → l = m
  | [], [], _ => rfl
  | a :: l, b :: m, h => by
    unfold eqbL at h
    split at h
    · rename_i e; rw [eqb_eq a b e, eqbL_eq l m h]
    · cases h
  | [], _ :: _, h => by simp [eqbL] at h
  | _ :: _, [], h => by simp [eqbL] at h
theorem eqbLL_eq : ∀ (l m : List (List AVal)), eqbLL l m = true → l = m
  | [], [], _ => rfl
  | a :: l, b :: m, h => by
    unfold eqbLL at h
    split at h
    · rename_i e; rw [eqbL_eq a b e, eqbLL_eq l m h]
    · cases h
  | [], _ :: _, h => by simp [eqbLL] at h
  | _ :: _, [], h => by simp [eqbLL] at h
end

theorem eqR_eq {a b : Res} (h : eqR a b = true) : a = b := by
  obtain ⟨x, l⟩ := a
  obtain ⟨y, m⟩ := b
  unfold eqR at h
  split at h
  · rename_i e
    rw [show x = y from eqb_eq _ _ e, show l = m from eqbLL_eq _ _ h]
  · cases h

theorem decS_enc {r1 r : Res} {K : S → Option Res} {s : S} (h1 : encS s = some r1) (h2 : decS r1 K = some r) : K s = some r := by
  simp only [encS, Option.some.injEq] at h1
  subst h1
  exact h2

theorem forkQ_eq {a b : Option Res} {r : Res} (h : forkQ a b = some r) : a = some r ∧ b = some r := by
  unfold forkQ at h
  split at h
  · split at h
    · split at h
      · rename_i e
        cases h
        exact ⟨rfl, by rw [eqR_eq e]⟩
      · cases h
    · cases h
  · cases h

theorem dreg_main (hT : TysOK P cx) (hE : EqOK P cx) {O : Oracle} (hO : OracleOK P O) (ops : Array Oper) (ms : List (List Nat)) (Q : Exit → Act → World → Prop)
    (hsel : ∀ (j : Nat) (o : Oper) cs b, ops[j]? = some o → o.op ≠ .select cs b)
    (hQp : ∀ c a w, ¬ Q (.panic c) a w) :
    ∀ (plan : DPlan) (r : Res) (K : S → Option Res) (hn : ∀ s' a' w', K s' = some r → RSx B s' a'.tmps w' → a'.defers = [] → Q .normal a' w') (l fl es : List Nat) (hc : List (Nat × List AVal)) (s : S) (m : Nat) (a : Act) (w : World) (Own OwnH : Owner) (ρ : List Nat) (M : Mem) (df : Nat → Option Nat) (listed : Array Bool),
      checkD cx ops l fl es plan = true → dregA cx O ops ms plan hc (fl.map (slotF ops)) s K = some r → DInv cx ops B s a.tmps w Own ρ M OwnH hc fl df → a.defers = [] → (∀ x, x ∈ l → x < ops.size) →
      Marks ops listed (dnF fl df ++ l) → m = unF fl df → wpAnyG P .any ops Q (planLen plan + m) listed a w (keptM (hc.map (·.1)) ρ M w) (fun i => i ∈ es) := by
  intro plan
  induction plan with
  | done =>
    intro r K hn l fl es hc s m a w Own OwnH ρ M df listed hck hr hD hd hl hm hmu
    simp only [checkD, Bool.and_eq_true] at hck
    obtain ⟨h1, h2⟩ := hck
    have hfl : fl = [] := by cases fl <;> simp_all
    subst hfl
    have hrd : rdyA l 0 ops.toList = [] := by
      split at h1
      · rename_i e; exact e
      · cases h1
    simp only [unF, List.filter_nil, List.length_nil] at hmu
    subst hmu
    simp only [planLen]
    refine ⟨?_, ?_⟩
    · cases hx : Region.ready .any ops listed with
      | nil => rfl
      | cons j t =>
        have := ready_rdyA hm (j := j) (by rw [hx]; exact List.mem_cons_self ..)
        simp only [dnF, List.filter_nil, List.nil_append] at this
        rw [hrd] at this; cases this
    · simp only [dregA] at hr
      exact hn _ _ _ hr ⟨_, _, _, hD.hs.show⟩ hd
  | step st p ih =>
    intro r K hn l fl es hc s m
    induction m using Nat.strongRecOn with
    | ind m ihm =>
    intro a w Own OwnH ρ M df listed hck hr hD hd hl hm hmu
    have hnd : fl.Nodup := List.Pairwise.of_map (slotF ops) (fun a b h e => h (by rw [e])) hD.nd
    have hlfl : ∀ x, x ∈ fl → x < ops.size := fun x hx => by
      obtain ⟨o, _, _, _, ho, _⟩ := hD.flo x hx
      exact (Array.getElem?_eq_some_iff.1 ho).1
    have hdl : ∀ x, x ∈ dnF fl df ++ l → x < ops.size := fun x hx => by
      rcases List.mem_append.1 hx with h | h
      · exact hlfl x (mem_dnF.1 h).1
      · exact hl x h
    have undone : ∀ j, j ∈ fl → j ∈ Region.ready .any ops listed → df j = none := fun j hj hjr => by
      obtain ⟨_, _, _, hnl, _⟩ := rdyA_iff.1 (ready_rdyA hm hjr)
      cases hx : df j with
      | none => rfl
      | some g => exact absurd (List.mem_append.2 (.inl (mem_dnF.2 ⟨hj, by rw [hx]; rfl⟩))) hnl
    have flo : ∀ j, j ∈ fl → j ∈ Region.ready .any ops listed → ∀ f, planLen (.step st p) + m = f + 1 → wpOp P ops Q j (fun a' w' => ∃ C' E', ((∀ i, (i ∈ es) → Waits .any ops j i) ∨ MLe (keptM (hc.map (·.1)) ρ M w) C' ∧ ∀ i, (i ∈ es) → E' i) ∧ Agree C' w' ∧ wpAnyG P .any ops Q f (listed.setIfInBounds j true) a' w' C' E') a w := by
      intro j hj hjr f hf
      have hdj := undone j hj hjr
      refine float_do hT hD hj hdj Q _ fun g a' w' hD' hdef hle hag => ⟨_, fun i => i ∈ es, .inr ⟨hle, fun _ h => h⟩, hag, ?_⟩
      have hu := unF_upd (g := g) hdj hnd hj
      have := ihm (unF fl (updF df j (some g))) (by omega) a' w' Own OwnH ρ M (updF df j (some g)) (listed.setIfInBounds j true) hck hr hD' (by rw [hdef]; exact hd) hl ((hm.add j).congr fun x => ?_) rfl
      · rwa [show planLen (.step st p) + unF fl (updF df j (some g)) = f by omega] at this
      · simp only [List.mem_cons, List.mem_append, mem_dnF]
        by_cases e : x = j
        · subst e; simp [updF_here, hj]
        · simp [updF_other e, e]
    have alone : ∀ i, (∀ j, j ∈ rdyA (fl ++ l) 0 ops.toList → j = i) → ∀ j, j ∉ fl → j ∈ Region.ready .any ops listed → j = i := fun i h1 j hjf hjr => by
      obtain ⟨o, h0, ho, hnl, ha⟩ := rdyA_iff.1 (ready_rdyA hm hjr)
      refine h1 j (rdyA_iff.2 ⟨o, h0, ho, fun h => ?_, afterIn_mono (fun x hx => ?_) ha⟩)
      · rcases List.mem_append.1 h with h | h
        · exact hjf h
        · exact hnl (List.mem_append.2 (.inr h))
      · rcases List.mem_append.1 hx with h | h
        · exact List.mem_append.2 (.inl (mem_dnF.1 h).1)
        · exact List.mem_append.2 (.inr h)
    have ready : ∀ i o, ops[i]? = some o → i ∉ fl ++ l → afterIn l o.after.toList = true → i ∈ Region.ready .any ops listed := fun i o ho hi ha =>
      rdyA_ready hm hdl (rdyA_iff.2 ⟨o, Nat.zero_le _, by simpa using ho, fun h => hi (by
        rcases List.mem_append.1 h with h | h
        · exact List.mem_append.2 (.inl (mem_dnF.1 h).1)
        · exact List.mem_append.2 (.inr h)), afterIn_mono (fun x hx => List.mem_append.2 (.inr hx)) ha⟩)
    have hapart : ∀ o, apartL ops o fl = true → ∀ f, f ∈ fl → o.dst ≠ some (slotF ops f) := fun o ho f hf => by
      obtain ⟨of, h1, h2⟩ := apartL_spec ho f hf
      obtain ⟨of', t, d, td, h3, hk, _⟩ := hD.flo f hf
      rw [h1] at h3; cases h3
      obtain ⟨_, hdst, _⟩ := allocK_spec hk
      rw [slotF_of h1 hk]
      exact (Oper.apart_spec h2).2.1 d hdst
    cases st with
    | go i =>
      simp only [checkD] at hck
      split at hck
      · rename_i o ho
        simp only [Bool.and_eq_true] at hck
        obtain ⟨⟨h1, h2, h3⟩, h4⟩ := hck
        have h1 := is1_spec h1
        simp only [dregA, ho] at hr
        have hir : i ∈ rdyA (fl ++ l) 0 ops.toList := by rw [h1]; exact List.mem_cons_self ..
        have hinl : i ∉ fl ++ l := (rdyA_iff.1 hir).choose_spec.2.2.1
        rw [show planLen (DPlan.step (.go i) p) + m = planLen p + m + 1 by simp only [planLen]; omega]
        refine ⟨fun h0 => (by have := ready i o ho hinl h2; rw [h0] at this; cases this), fun j hj => ?_⟩
        by_cases hjf : j ∈ fl
        · exact flo j hjf hj _ (by simp only [planLen]; omega)
        · have e := alone i (fun j hj => by rw [h1] at hj; simpa using hj) j hjf hj
          subst e
          have key := op1_put hT hE hO (B := bs0 Own w M ρ) (a := a) ⟨_, _, _, hD.hs.rs.anew⟩ hr Q (fun a' w' => ∃ C' E', ((∀ i, (i ∈ es) → Waits .any ops j i) ∨ MLe (keptM (hc.map (·.1)) ρ M w) C' ∧ ∀ i, (i ∈ es) → E' i) ∧ Agree C' w' ∧ wpAnyG P .any ops Q (planLen p + m) (listed.setIfInBounds j true) a' w' C' E') (fun s' v' w' hK hR => by
            split at hK
            · rename_i hst
              rw [Bool.and_eq_true] at hst
              obtain ⟨Own', ρ', M', hR⟩ := hR
              obtain ⟨hD', hle, hag⟩ := hD.go hR hst.1 hst.2 (hapart o h3)
              refine ⟨_, fun i => i ∈ es, .inr ⟨hle, fun _ h => h⟩, hag, ?_⟩
              exact ih r K hn (j :: l) fl es hc s' m _ w' Own' OwnH ρ' M' df _ h4 hK hD' (by rw [Act.put_def]; exact hd) (fun x hx => by
                rcases List.mem_cons.1 hx with e | hx
                · rw [e]; exact (Array.getElem?_eq_some_iff.1 ho).1
                · exact hl x hx) ((hm.add j).congr fun x => by simp only [List.mem_cons, List.mem_append]; exact or_left_comm) hmu
            · cases hK)
          unfold wpOp
          simp only [ho]
          split
          · rename_i hw; rw [if_pos hw] at key; exact .inl key
          · rename_i hw; rw [if_neg hw] at key; exact key
      · cases hck
    | goall i =>
      simp only [checkD] at hck
      split at hck
      · rename_i o ho
        simp only [Bool.and_eq_true] at hck
        obtain ⟨⟨h1, h2, h3, hwt⟩, h4⟩ := hck
        have h1 := is1_spec h1
        simp only [dregA, ho] at hr
        have hir : i ∈ rdyA (fl ++ l) 0 ops.toList := by rw [h1]; exact List.mem_cons_self ..
        have hinl : i ∉ fl ++ l := (rdyA_iff.1 hir).choose_spec.2.2.1
        rw [show planLen (DPlan.step (.goall i) p) + m = planLen p + m + 1 by simp only [planLen]; omega]
        refine ⟨fun h0 => (by have := ready i o ho hinl h2; rw [h0] at this; cases this), fun j hj => ?_⟩
        by_cases hjf : j ∈ fl
        · exact flo j hjf hj _ (by simp only [planLen]; omega)
        · have e := alone i (fun j hj => by rw [h1] at hj; simpa using hj) j hjf hj
          subst e
          have key := op1_put hT hE hO (B := bs0 (orO Own OwnH) w M ρ) (a := a) ⟨_, _, _, hD.hs.show.anew⟩ hr Q (fun a' w' => ∃ C' E', ((∀ i, (i ∈ es) → Waits .any ops j i) ∨ MLe (keptM (hc.map (·.1)) ρ M w) C' ∧ ∀ i, (i ∈ es) → E' i) ∧ Agree C' w' ∧ wpAnyG P .any ops Q (planLen p + m) (listed.setIfInBounds j true) a' w' C' E') (fun s' v' w' hK hR => by
            split at hK
            · rename_i hst
              obtain ⟨Own', ρ', M', hR⟩ := hR
              obtain ⟨hD', hag⟩ := hD.goall hR hst (hapart o h3)
              obtain ⟨hn1, hn2⟩ := fullL_spec (heap := s'.heap) hD.hs.nd
              have hD2 := hD'.rehide hn1 (fun b hb => (hn2 b hb).2)
              refine ⟨keptM ((hideAll s'.heap (fullL s'.heap (hc.map (·.1)))).1.map (·.1)) ρ' M' w', fun i => i ∈ [], .inl fun i hi => ?_, keptM_agree (fun g o c hc => (hD'.hs.rs.wi.agree g o c hc).1), ?_⟩
              · unfold waitsAll at hwt
                rw [List.all_eq_true] at hwt
                exact waits_Waits ho (hwt i hi)
              · exact ih r K hn (j :: l) fl [] _ _ m _ w' _ _ ρ' M' df _ h4 hK hD2 (by rw [Act.put_def]; exact hd) (fun x hx => by
                  rcases List.mem_cons.1 hx with e | hx
                  · rw [e]; exact (Array.getElem?_eq_some_iff.1 ho).1
                  · exact hl x hx) ((hm.add j).congr fun x => by simp only [List.mem_cons, List.mem_append]; exact or_left_comm) hmu
            · cases hK)
          unfold wpOp
          simp only [ho]
          split
          · rename_i hw; rw [if_pos hw] at key; exact .inl key
          · rename_i hw; rw [if_neg hw] at key; exact key
      · cases hck
    | early i =>
      simp only [checkD] at hck
      split at hck
      · rename_i o ho
        simp only [Bool.and_eq_true] at hck
        obtain ⟨⟨h1, h2, h3, hfree, hap⟩, h4⟩ := hck
        have hinl : i ∉ fl ++ l := fun h => by rw [inL_iff.2 h] at h1; cases h1
        simp only [dregA, ho] at hr
        split at hr
        · rename_i hq
          rw [show planLen (DPlan.step (.early i) p) + m = planLen p + m + 1 by simp only [planLen]; omega]
          have hRa : RSx (bs0 (orO Own OwnH) w M ρ) { s with heap := unhide s.heap hc } a.tmps w := ⟨_, _, _, hD.hs.show.anew⟩
          have hfr : ∀ j oj, ops[j]? = some oj → j ≠ i → listed.getD j true = false → (∀ e ∈ oj.after, Region.binds .any e = true → e.on ≠ i) → o.apart ops oj = true := fun j oj hj hji hun hno => by
            rcases freeA_spec hfree j oj (by simpa using hj) with h | h | h | h
            · exact absurd (by simpa using h) hji
            · have := (hm.unlisted (Array.getElem?_eq_some_iff.1 hj).1).1 hun
              exact absurd (List.mem_append.2 (.inr (by simpa using h))) this
            · obtain ⟨e, he, hb, hon⟩ := waits_iff.1 h
              exact absurd hon (hno e (by simpa using he) hb)
            · exact h
          have fin : ∀ (St : World → Prop) u s', (match fullH s'.heap hc && stillF s'.env (fl.map (slotF ops)) with
              | true => match hideAll s'.heap (hc.map (·.1)) with
                | (hc, h) => dregA cx O ops ms p hc (fl.map (slotF ops)) { s' with heap := h } K
              | false => none) = some r → RSx (bs0 (orO Own OwnH) w M ρ) s' (a.put o.dst u).tmps w → YieldsIf P ops St o u a → (∀ C, MLe (keptM (hc.map (·.1)) ρ M w) C → YieldsIf P ops (fun _ => True) o u a ∨ YieldsIf P ops (Agree C) o u a ∧ isLoad o = true) →
              wpAnyG P .any ops Q (planLen p + m + 1) listed a w (keptM (hc.map (·.1)) ρ M w) (fun i => i ∈ es) := by
            intro St u s' hK hR hy hyy
            split at hK
            · rename_i hst
              rw [Bool.and_eq_true] at hst
              obtain ⟨Own', ρ', M', hR⟩ := hR
              obtain ⟨⟨OwnH', hD'⟩, hle, hag, hbs⟩ := hD.early hR hst.1 hst.2 (hapart o hap)
              have := ih r K hn (i :: l) fl (match isLoad o with | true => i :: es | false => es) _ _ m _ w _ OwnH' ρ' M' df (listed.setIfInBounds i true) h4 hK hD' (by rw [Act.put_def]; exact hd) (fun x hx => by
                  rcases List.mem_cons.1 hx with e | hx
                  · rw [e]; exact (Array.getElem?_eq_some_iff.1 ho).1
                  · exact hl x hx) ((hm.add i).congr fun x => by simp only [List.mem_cons, List.mem_append]; exact or_left_comm) hmu
              rw [hbs] at this
              refine wpAnyG_weaken hle (E1 := fun x => x ∈ (match isLoad o with | true => i :: es | false => es)) (fun x hx => ?_) (wpAnyG_first ho hsel (fun c a w h => absurd h (hQp c _ w)) _ listed a w _ _ hfr (ready i o ho hinl h2) ?_ hag this)
              · split
                · exact List.mem_cons_of_mem _ hx
                · exact hx
              · rcases hyy _ hle with h | ⟨h, hl⟩
                · exact .inl h
                · exact .inr ⟨h, by rw [hl]; exact List.mem_cons_self ..⟩
            · cases hK
          cases hld : isLoad o with
          | false =>
            obtain ⟨u, s', hK, hR, hy⟩ := op1_early hT hE hO (St := fun _ => True) hRa hr (fun K' hs => let ⟨u, hu⟩ := calm_run (O := O) hT hE hRa h3 hld hs; ⟨u, fun w' _ => hu w'⟩) trivial
            exact fin _ u s' hK hR hy fun C _ => .inl hy
          | true =>
            have hq' : quietA { s with heap := unhide s.heap hc } hc o = true := by
              have e : ∀ x, S.rdo { s with heap := unhide s.heap hc } none x = s.rdo none x := fun x => by cases x <;> rfl
              unfold quietA at hq ⊢
              simpa only [e] using hq
            obtain ⟨u, s', hK, hR, hy⟩ := op1_early hT hE hO (St := Agree (keptM (hc.map (·.1)) ρ M w)) hRa hr (fun K' hs => load_run (O := O) hT hD.hs.show hld hq' hs) (keptM_agree fun g o c hc => (hD.hs.rs.wi.agree g o c hc).1)
            exact fin _ u s' hK hR hy fun C hC => .inr ⟨YieldsIf.mono hy fun w' h => Agree.le hC h, hld⟩
        · cases hr
      · cases hck
    | float i =>
      simp only [checkD] at hck
      split at hck
      · rename_i o ho
        simp only [Bool.and_eq_true] at hck
        obtain ⟨⟨h1, h2, hfree, hka⟩, h4⟩ := hck
        have hinl : i ∉ fl ++ l := fun h => by rw [inL_iff.2 h] at h1; cases h1
        have hifl : i ∉ fl := fun h => hinl (List.mem_append.2 (.inl h))
        simp only [dregA, ho] at hr
        split at hr
        · rename_i t d hk
          split at hr
          · rename_i td hty
            split at hr
            · rename_i hst
              rw [Bool.and_eq_true] at hst
              have hndd : d ∉ fl.map (slotF ops) := fun h => by
                have := hst.1
                rw [inL_iff.2 h] at this; cases this
              have hD' := hD.float ho hk hty hndd hifl hst.2
              have hsl := slotF_of ho hk
              rw [show planLen (DPlan.step (.float i) p) + m = planLen p + (m + 1) by simp only [planLen]; omega]
              exact ih r K hn l (i :: fl) es hc _ (m + 1) a w Own OwnH ρ M (updF df i none) listed h4 (by rw [List.map_cons, hsl]; exact hr) hD' hd hl (hm.congr fun x => by rw [dnF_float hifl]) (by rw [unF_float hifl, hmu])
            · cases hr
          · cases hr
        · cases hr
      · cases hck
    | land i =>
      simp only [checkD, Bool.and_eq_true] at hck
      obtain ⟨⟨⟨h1, h2⟩, h3⟩, h4⟩ := hck
      have hif := inL_iff.1 h1
      have h2 := is1_spec h2
      have hr0 := hr
      simp only [dregA] at hr
      split at hr
      · rename_i o ho
        split at hr
        · rename_i t d hk
          split at hr
          · rename_i td hty
            have hsl := slotF_of ho hk
            cases hdi : df i with
            | none =>
              have hpos : 0 < m := by
                rw [hmu]
                unfold unF
                exact List.length_pos_of_mem (List.mem_filter.2 ⟨hif, by rw [hdi]; rfl⟩)
              obtain ⟨m', rfl⟩ : ∃ m', m = m' + 1 := ⟨m - 1, by omega⟩
              rw [show planLen (DPlan.step (.land i) p) + (m' + 1) = planLen p + m' + 1 by simp only [planLen]; omega]
              have hir : i ∈ rdyA (delL i fl ++ l) 0 ops.toList := by rw [h2]; exact List.mem_cons_self ..
              have hsub : ∀ x, x ∈ dnF fl df ++ l → x ∈ delL i fl ++ l := fun x hx => by
                rcases List.mem_append.1 hx with h | h
                · refine List.mem_append.2 (.inl (delL_of (mem_dnF.1 h).1 fun e => ?_))
                  have := (mem_dnF.1 h).2
                  rw [e, hdi] at this; cases this
                · exact List.mem_append.2 (.inr h)
              refine ⟨fun h0 => ?_, fun j hj => ?_⟩
              · simp only [ho] at h3
                have hin : i ∈ Region.ready .any ops listed := rdyA_ready hm hdl (rdyA_iff.2 ⟨o, Nat.zero_le _, by simpa using ho, fun h => ?_, afterIn_mono (fun x hx => List.mem_append.2 (.inr hx)) h3⟩)
                · rw [h0] at hin; cases hin
                · rcases List.mem_append.1 h with h | h
                  · have := (mem_dnF.1 h).2
                    rw [hdi] at this; cases this
                  · exact (rdyA_iff.1 hir).choose_spec.2.2.1 (List.mem_append.2 (.inr h))
              · by_cases hjf : j ∈ fl
                · exact flo j hjf hj _ (by simp only [planLen]; omega)
                · exfalso
                  obtain ⟨o', k0, ho', hnl, ha⟩ := rdyA_iff.1 (ready_rdyA hm hj)
                  have : j ∈ rdyA (delL i fl ++ l) 0 ops.toList := rdyA_iff.2 ⟨o', k0, ho', fun h => by
                    rcases List.mem_append.1 h with h | h
                    · exact hjf (mem_delL h)
                    · exact hnl (List.mem_append.2 (.inr h)), afterIn_mono hsub ha⟩
                  rw [h2] at this
                  simp only [List.mem_singleton] at this
                  exact hjf (this ▸ hif)
            | some g =>
              obtain ⟨Own', ρ', hD', hle, hag⟩ := hD.land hif ho hk hty hdi hnd
              have hmapd : delL d (fl.map (slotF ops)) = (delL i fl).map (slotF ops) := by
                rw [← hsl]
                refine delL_map (slotF ops) i fl fun x hx e => ?_
                by_cases c : x = i
                · exact c
                · exact absurd e (slots_ne hD.nd hx hif c)
              rw [hmapd] at hr
              refine wpAnyG_weaken hle (E1 := fun i => i ∈ es) (fun _ h => h) ?_
              have := ih r K hn (i :: l) (delL i fl) es hc _ m a w Own' OwnH ρ' M df listed h4 hr hD' hd (fun x hx => by
                  rcases List.mem_cons.1 hx with e | hx
                  · rw [e]; exact (Array.getElem?_eq_some_iff.1 ho).1
                  · exact hl x hx) (hm.congr fun x => ?_) (by rw [unF_land (by rw [hdi]; rfl), hmu])
              · simpa only [planLen] using this
              · simp only [List.mem_cons, List.mem_append, mem_dnF, mem_delL_iff]
                by_cases e : x = i
                · subst e; simp [hif, hdi]
                · simp [e]
          · cases hr
        · cases hr
      · cases hr
  | fork i1 j1 p q ihp ihq =>
    intro r K hn l fl es hc s m
    induction m using Nat.strongRecOn with
    | ind m ihm =>
    intro a w Own OwnH ρ M df listed hck hr hD hd hl hm hmu
    have hnd : fl.Nodup := List.Pairwise.of_map (slotF ops) (fun a b h e => h (by rw [e])) hD.nd
    have hlfl : ∀ x, x ∈ fl → x < ops.size := fun x hx => by
      obtain ⟨o, _, _, _, ho, _⟩ := hD.flo x hx
      exact (Array.getElem?_eq_some_iff.1 ho).1
    have hdl : ∀ x, x ∈ dnF fl df ++ l → x < ops.size := fun x hx => by
      rcases List.mem_append.1 hx with h | h
      · exact hlfl x (mem_dnF.1 h).1
      · exact hl x h
    have undone : ∀ j, j ∈ fl → j ∈ Region.ready .any ops listed → df j = none := fun j hj hjr => by
      obtain ⟨_, _, _, hnl, _⟩ := rdyA_iff.1 (ready_rdyA hm hjr)
      cases hx : df j with
      | none => rfl
      | some g => exact absurd (List.mem_append.2 (.inl (mem_dnF.2 ⟨hj, by rw [hx]; rfl⟩))) hnl
    have flo : ∀ j, j ∈ fl → j ∈ Region.ready .any ops listed → ∀ f, planLen (.fork i1 j1 p q) + m = f + 1 → wpOp P ops Q j (fun a' w' => ∃ C' E', ((∀ i, (i ∈ es) → Waits .any ops j i) ∨ MLe (keptM (hc.map (·.1)) ρ M w) C' ∧ ∀ i, (i ∈ es) → E' i) ∧ Agree C' w' ∧ wpAnyG P .any ops Q f (listed.setIfInBounds j true) a' w' C' E') a w := by
      intro j hj hjr f hf
      have hdj := undone j hj hjr
      refine float_do hT hD hj hdj Q _ fun g a' w' hD' hdef hle hag => ⟨_, fun i => i ∈ es, .inr ⟨hle, fun _ h => h⟩, hag, ?_⟩
      have hu := unF_upd (g := g) hdj hnd hj
      have := ihm (unF fl (updF df j (some g))) (by omega) a' w' Own OwnH ρ M (updF df j (some g)) (listed.setIfInBounds j true) hck hr hD' (by rw [hdef]; exact hd) hl ((hm.add j).congr fun x => ?_) rfl
      · rwa [show planLen (.fork i1 j1 p q) + unF fl (updF df j (some g)) = f by omega] at this
      · simp only [List.mem_cons, List.mem_append, mem_dnF]
        by_cases e : x = j
        · subst e; simp [updF_here, hj]
        · simp [updF_other e, e]
    have alone : ∀ i, (∀ j, j ∈ rdyA (fl ++ l) 0 ops.toList → j = i) → ∀ j, j ∉ fl → j ∈ Region.ready .any ops listed → j = i := fun i h1 j hjf hjr => by
      obtain ⟨o, h0, ho, hnl, ha⟩ := rdyA_iff.1 (ready_rdyA hm hjr)
      refine h1 j (rdyA_iff.2 ⟨o, h0, ho, fun h => ?_, afterIn_mono (fun x hx => ?_) ha⟩)
      · rcases List.mem_append.1 h with h | h
        · exact hjf h
        · exact hnl (List.mem_append.2 (.inr h))
      · rcases List.mem_append.1 hx with h | h
        · exact List.mem_append.2 (.inl (mem_dnF.1 h).1)
        · exact List.mem_append.2 (.inr h)
    have ready : ∀ i o, ops[i]? = some o → i ∉ fl ++ l → afterIn l o.after.toList = true → i ∈ Region.ready .any ops listed := fun i o ho hi ha =>
      rdyA_ready hm hdl (rdyA_iff.2 ⟨o, Nat.zero_le _, by simpa using ho, fun h => hi (by
        rcases List.mem_append.1 h with h | h
        · exact List.mem_append.2 (.inl (mem_dnF.1 h).1)
        · exact List.mem_append.2 (.inr h)), afterIn_mono (fun x hx => List.mem_append.2 (.inr hx)) ha⟩)
    have hapart : ∀ o, apartL ops o fl = true → ∀ f, f ∈ fl → o.dst ≠ some (slotF ops f) := fun o ho f hf => by
      obtain ⟨of, h1, h2⟩ := apartL_spec ho f hf
      obtain ⟨of', t, d, td, h3, hk, _⟩ := hD.flo f hf
      rw [h1] at h3; cases h3
      obtain ⟨_, hdst, _⟩ := allocK_spec hk
      rw [slotF_of h1 hk]
      exact (Oper.apart_spec h2).2.1 d hdst
    simp only [checkD] at hck
    split at hck
    · rename_i oi hoi
      split at hck
      · rename_i oj hoj
        simp only [Bool.and_eq_true] at hck
        obtain ⟨⟨h1, h2, h3, h3', hpl⟩, h4, h5⟩ := hck
        have h1 := is2_spec h1
        have hpl := Nat.eq_of_beq_eq_true hpl
        simp only [dregA, hoi, hoj] at hr
        split at hr
        · rename_i r1 hr1
          split at hr
          · rename_i r2 hr2
            split at hr
            · rename_i heq
              have heq := eqR_eq heq
              subst heq
              have hir : i1 ∈ rdyA (fl ++ l) 0 ops.toList := by rw [h1]; exact List.mem_cons_self ..
              have hinl : i1 ∉ fl ++ l := (rdyA_iff.1 hir).choose_spec.2.2.1
              have hn1 : ∀ s' a' w', encS s' = some r1 → RSx B s' a'.tmps w' → a'.defers = [] → Q .normal a' w' := fun s' a' w' he => hn s' a' w' (decS_enc he hr)
              rw [show planLen (DPlan.fork i1 j1 p q) + m = planLen p + m + 1 by simp only [planLen]; omega]
              refine ⟨fun h0 => (by have := ready i1 oi hoi hinl h2; rw [h0] at this; cases this), fun k hk => ?_⟩
              by_cases hkf : k ∈ fl
              · exact flo k hkf hk _ (by simp only [planLen]; omega)
              · have two : ∀ (k' : Nat) (o : Oper) (p' : DPlan) (ih' : ∀ (r : Res) (K : S → Option Res) (hn : ∀ s' a' w', K s' = some r → RSx B s' a'.tmps w' → a'.defers = [] → Q .normal a' w') (l fl es : List Nat) (hc : List (Nat × List AVal)) (s : S) (m : Nat) (a : Act) (w : World) (Own OwnH : Owner) (ρ : List Nat) (M : Mem) (df : Nat → Option Nat) (listed : Array Bool),
                    checkD cx ops l fl es p' = true → dregA cx O ops ms p' hc (fl.map (slotF ops)) s K = some r → DInv cx ops B s a.tmps w Own ρ M OwnH hc fl df → a.defers = [] → (∀ x, x ∈ l → x < ops.size) →
                    Marks ops listed (dnF fl df ++ l) → m = unF fl df → wpAnyG P .any ops Q (planLen p' + m) listed a w (keptM (hc.map (·.1)) ρ M w) (fun i => i ∈ es)),
                    ops[k']? = some o → apartL ops o fl = true → checkD cx ops (k' :: l) fl es p' = true → planLen p' = planLen p → (op1A cx O ops o (msAt ms k') s fun s => match stillH s.heap hc && stillF s.env (fl.map (slotF ops)) with
                      | true => dregA cx O ops ms p' hc (fl.map (slotF ops)) s encS
                      | false => none) = some r1 → wpOp P ops Q k' (fun a' w' => ∃ C' E', ((∀ i, (i ∈ es) → Waits .any ops k' i) ∨ MLe (keptM (hc.map (·.1)) ρ M w) C' ∧ ∀ i, (i ∈ es) → E' i) ∧ Agree C' w' ∧ wpAnyG P .any ops Q (planLen p + m) (listed.setIfInBounds k' true) a' w' C' E') a w := by
                  intro k' o p' ih' ho h3 h4 hpl hr
                  have key := op1_put hT hE hO (B := bs0 Own w M ρ) (a := a) ⟨_, _, _, hD.hs.rs.anew⟩ hr Q (fun a' w' => ∃ C' E', ((∀ i, (i ∈ es) → Waits .any ops k' i) ∨ MLe (keptM (hc.map (·.1)) ρ M w) C' ∧ ∀ i, (i ∈ es) → E' i) ∧ Agree C' w' ∧ wpAnyG P .any ops Q (planLen p + m) (listed.setIfInBounds k' true) a' w' C' E') (fun s' v' w' hK hR => by
                    split at hK
                    · rename_i hst
                      rw [Bool.and_eq_true] at hst
                      obtain ⟨Own', ρ', M', hR⟩ := hR
                      obtain ⟨hD', hle, hag⟩ := hD.go hR hst.1 hst.2 (hapart o h3)
                      refine ⟨_, fun i => i ∈ es, .inr ⟨hle, fun _ h => h⟩, hag, ?_⟩
                      have := ih' r1 encS hn1 (k' :: l) fl es hc s' m _ w' Own' OwnH ρ' M' df (listed.setIfInBounds k' true) h4 hK hD' (by rw [Act.put_def]; exact hd) (fun x hx => by
                        rcases List.mem_cons.1 hx with e | hx
                        · rw [e]; exact (Array.getElem?_eq_some_iff.1 ho).1
                        · exact hl x hx) ((hm.add k').congr fun x => by simp only [List.mem_cons, List.mem_append]; exact or_left_comm) hmu
                      rwa [hpl] at this
                    · cases hK)
                  unfold wpOp
                  simp only [ho]
                  split
                  · rename_i hw; rw [if_pos hw] at key; exact .inl key
                  · rename_i hw; rw [if_neg hw] at key; exact key
                have hkk : k = i1 ∨ k = j1 := by
                  obtain ⟨o, h0, ho, hnl, ha⟩ := rdyA_iff.1 (ready_rdyA hm hk)
                  have : k ∈ rdyA (fl ++ l) 0 ops.toList := rdyA_iff.2 ⟨o, h0, ho, fun h => by
                    rcases List.mem_append.1 h with h | h
                    · exact hkf h
                    · exact hnl (List.mem_append.2 (.inr h)), afterIn_mono (fun x hx => by
                    rcases List.mem_append.1 hx with h | h
                    · exact List.mem_append.2 (.inl (mem_dnF.1 h).1)
                    · exact List.mem_append.2 (.inr h)) ha⟩
                  rw [h1] at this
                  simpa using this
                rcases hkk with e | e
                · rw [e]; exact two i1 oi p ihp hoi h3 h4 rfl hr1
                · rw [e]; exact two j1 oj q ihq hoj h3' h5 hpl.symm hr2
            · cases hr
          · cases hr
        · cases hr
      · cases hck
    · cases hck
  | forkk i1 j1 p q ihp ihq =>
    intro r K hn l fl es hc s m
    induction m using Nat.strongRecOn with
    | ind m ihm =>
    intro a w Own OwnH ρ M df listed hck hr hD hd hl hm hmu
    have hnd : fl.Nodup := List.Pairwise.of_map (slotF ops) (fun a b h e => h (by rw [e])) hD.nd
    have hlfl : ∀ x, x ∈ fl → x < ops.size := fun x hx => by
      obtain ⟨o, _, _, _, ho, _⟩ := hD.flo x hx
      exact (Array.getElem?_eq_some_iff.1 ho).1
    have hdl : ∀ x, x ∈ dnF fl df ++ l → x < ops.size := fun x hx => by
      rcases List.mem_append.1 hx with h | h
      · exact hlfl x (mem_dnF.1 h).1
      · exact hl x h
    have undone : ∀ j, j ∈ fl → j ∈ Region.ready .any ops listed → df j = none := fun j hj hjr => by
      obtain ⟨_, _, _, hnl, _⟩ := rdyA_iff.1 (ready_rdyA hm hjr)
      cases hx : df j with
      | none => rfl
      | some g => exact absurd (List.mem_append.2 (.inl (mem_dnF.2 ⟨hj, by rw [hx]; rfl⟩))) hnl
    have flo : ∀ j, j ∈ fl → j ∈ Region.ready .any ops listed → ∀ f, planLen (.forkk i1 j1 p q) + m = f + 1 → wpOp P ops Q j (fun a' w' => ∃ C' E', ((∀ i, (i ∈ es) → Waits .any ops j i) ∨ MLe (keptM (hc.map (·.1)) ρ M w) C' ∧ ∀ i, (i ∈ es) → E' i) ∧ Agree C' w' ∧ wpAnyG P .any ops Q f (listed.setIfInBounds j true) a' w' C' E') a w := by
      intro j hj hjr f hf
      have hdj := undone j hj hjr
      refine float_do hT hD hj hdj Q _ fun g a' w' hD' hdef hle hag => ⟨_, fun i => i ∈ es, .inr ⟨hle, fun _ h => h⟩, hag, ?_⟩
      have hu := unF_upd (g := g) hdj hnd hj
      have := ihm (unF fl (updF df j (some g))) (by omega) a' w' Own OwnH ρ M (updF df j (some g)) (listed.setIfInBounds j true) hck hr hD' (by rw [hdef]; exact hd) hl ((hm.add j).congr fun x => ?_) rfl
      · rwa [show planLen (.forkk i1 j1 p q) + unF fl (updF df j (some g)) = f by omega] at this
      · simp only [List.mem_cons, List.mem_append, mem_dnF]
        by_cases e : x = j
        · subst e; simp [updF_here, hj]
        · simp [updF_other e, e]
    have alone : ∀ i, (∀ j, j ∈ rdyA (fl ++ l) 0 ops.toList → j = i) → ∀ j, j ∉ fl → j ∈ Region.ready .any ops listed → j = i := fun i h1 j hjf hjr => by
      obtain ⟨o, h0, ho, hnl, ha⟩ := rdyA_iff.1 (ready_rdyA hm hjr)
      refine h1 j (rdyA_iff.2 ⟨o, h0, ho, fun h => ?_, afterIn_mono (fun x hx => ?_) ha⟩)
      · rcases List.mem_append.1 h with h | h
        · exact hjf h
        · exact hnl (List.mem_append.2 (.inr h))
      · rcases List.mem_append.1 hx with h | h
        · exact List.mem_append.2 (.inl (mem_dnF.1 h).1)
        · exact List.mem_append.2 (.inr h)
    have ready : ∀ i o, ops[i]? = some o → i ∉ fl ++ l → afterIn l o.after.toList = true → i ∈ Region.ready .any ops listed := fun i o ho hi ha =>
      rdyA_ready hm hdl (rdyA_iff.2 ⟨o, Nat.zero_le _, by simpa using ho, fun h => hi (by
        rcases List.mem_append.1 h with h | h
        · exact List.mem_append.2 (.inl (mem_dnF.1 h).1)
        · exact List.mem_append.2 (.inr h)), afterIn_mono (fun x hx => List.mem_append.2 (.inr hx)) ha⟩)
    have hapart : ∀ o, apartL ops o fl = true → ∀ f, f ∈ fl → o.dst ≠ some (slotF ops f) := fun o ho f hf => by
      obtain ⟨of, h1, h2⟩ := apartL_spec ho f hf
      obtain ⟨of', t, d, td, h3, hk, _⟩ := hD.flo f hf
      rw [h1] at h3; cases h3
      obtain ⟨_, hdst, _⟩ := allocK_spec hk
      rw [slotF_of h1 hk]
      exact (Oper.apart_spec h2).2.1 d hdst
    simp only [checkD] at hck
    split at hck
    · rename_i oi hoi
      split at hck
      · rename_i oj hoj
        simp only [Bool.and_eq_true] at hck
        obtain ⟨⟨h1, h2, h3, h3', hpl⟩, h4, h5⟩ := hck
        have h1 := is2_spec h1
        have hpl := Nat.eq_of_beq_eq_true hpl
        simp only [dregA, hoi, hoj] at hr
        obtain ⟨hr1, hr2⟩ := forkQ_eq hr
        have hir : i1 ∈ rdyA (fl ++ l) 0 ops.toList := by rw [h1]; exact List.mem_cons_self ..
        have hinl : i1 ∉ fl ++ l := (rdyA_iff.1 hir).choose_spec.2.2.1
        rw [show planLen (DPlan.forkk i1 j1 p q) + m = planLen p + m + 1 by simp only [planLen]; omega]
        refine ⟨fun h0 => (by have := ready i1 oi hoi hinl h2; rw [h0] at this; cases this), fun k hk => ?_⟩
        by_cases hkf : k ∈ fl
        · exact flo k hkf hk _ (by simp only [planLen]; omega)
        · have two : ∀ (k' : Nat) (o : Oper) (p' : DPlan) (ih' : ∀ (r : Res) (K : S → Option Res) (hn : ∀ s' a' w', K s' = some r → RSx B s' a'.tmps w' → a'.defers = [] → Q .normal a' w') (l fl es : List Nat) (hc : List (Nat × List AVal)) (s : S) (m : Nat) (a : Act) (w : World) (Own OwnH : Owner) (ρ : List Nat) (M : Mem) (df : Nat → Option Nat) (listed : Array Bool),
              checkD cx ops l fl es p' = true → dregA cx O ops ms p' hc (fl.map (slotF ops)) s K = some r → DInv cx ops B s a.tmps w Own ρ M OwnH hc fl df → a.defers = [] → (∀ x, x ∈ l → x < ops.size) →
              Marks ops listed (dnF fl df ++ l) → m = unF fl df → wpAnyG P .any ops Q (planLen p' + m) listed a w (keptM (hc.map (·.1)) ρ M w) (fun i => i ∈ es)),
              ops[k']? = some o → apartL ops o fl = true → checkD cx ops (k' :: l) fl es p' = true → planLen p' = planLen p → (op1A cx O ops o (msAt ms k') s fun s => match stillH s.heap hc && stillF s.env (fl.map (slotF ops)) with
                | true => dregA cx O ops ms p' hc (fl.map (slotF ops)) s K
                | false => none) = some r → wpOp P ops Q k' (fun a' w' => ∃ C' E', ((∀ i, (i ∈ es) → Waits .any ops k' i) ∨ MLe (keptM (hc.map (·.1)) ρ M w) C' ∧ ∀ i, (i ∈ es) → E' i) ∧ Agree C' w' ∧ wpAnyG P .any ops Q (planLen p + m) (listed.setIfInBounds k' true) a' w' C' E') a w := by
            intro k' o p' ih' ho h3 h4 hpl hr
            have key := op1_put hT hE hO (B := bs0 Own w M ρ) (a := a) ⟨_, _, _, hD.hs.rs.anew⟩ hr Q (fun a' w' => ∃ C' E', ((∀ i, (i ∈ es) → Waits .any ops k' i) ∨ MLe (keptM (hc.map (·.1)) ρ M w) C' ∧ ∀ i, (i ∈ es) → E' i) ∧ Agree C' w' ∧ wpAnyG P .any ops Q (planLen p + m) (listed.setIfInBounds k' true) a' w' C' E') (fun s' v' w' hK hR => by
              split at hK
              · rename_i hst
                rw [Bool.and_eq_true] at hst
                obtain ⟨Own', ρ', M', hR⟩ := hR
                obtain ⟨hD', hle, hag⟩ := hD.go hR hst.1 hst.2 (hapart o h3)
                refine ⟨_, fun i => i ∈ es, .inr ⟨hle, fun _ h => h⟩, hag, ?_⟩
                have := ih' r K hn (k' :: l) fl es hc s' m _ w' Own' OwnH ρ' M' df (listed.setIfInBounds k' true) h4 hK hD' (by rw [Act.put_def]; exact hd) (fun x hx => by
                  rcases List.mem_cons.1 hx with e | hx
                  · rw [e]; exact (Array.getElem?_eq_some_iff.1 ho).1
                  · exact hl x hx) ((hm.add k').congr fun x => by simp only [List.mem_cons, List.mem_append]; exact or_left_comm) hmu
                rwa [hpl] at this
              · cases hK)
            unfold wpOp
            simp only [ho]
            split
            · rename_i hw; rw [if_pos hw] at key; exact .inl key
            · rename_i hw; rw [if_neg hw] at key; exact key
          have hkk : k = i1 ∨ k = j1 := by
            obtain ⟨o, h0, ho, hnl, ha⟩ := rdyA_iff.1 (ready_rdyA hm hk)
            have : k ∈ rdyA (fl ++ l) 0 ops.toList := rdyA_iff.2 ⟨o, h0, ho, fun h => by
              rcases List.mem_append.1 h with h | h
              · exact hkf h
              · exact hnl (List.mem_append.2 (.inr h)), afterIn_mono (fun x hx => by
              rcases List.mem_append.1 hx with h | h
              · exact List.mem_append.2 (.inl (mem_dnF.1 h).1)
              · exact List.mem_append.2 (.inr h)) ha⟩
            rw [h1] at this
            simpa using this
          rcases hkk with e | e
          · rw [e]; exact two i1 oi p ihp hoi h3 h4 rfl hr1
          · rw [e]; exact two j1 oj q ihq hoj h3' h5 hpl.symm hr2
      · cases hck
    · cases hck

theorem hidBlks_spec (s : S) : ∀ (ts acc : List Nat), acc.Nodup → (∀ b, b ∈ acc → ∃ c cs, s.heap[b]? = some (c :: cs)) → (hidBlks s ts acc).Nodup ∧ ∀ b, b ∈ hidBlks s ts acc → ∃ c cs, s.heap[b]? = some (c :: cs)
  | [], acc, h1, h2 => ⟨h1, h2⟩
  | t :: ts, acc, h1, h2 => by
    unfold hidBlks
    split
    · rename_i b o hb
      split
      · exact hidBlks_spec s ts acc h1 h2
      · rename_i hin
        split
        · exact hidBlks_spec s ts acc h1 h2
        · rename_i hne
          refine hidBlks_spec s ts (b :: acc) (List.nodup_cons.2 ⟨fun h => (by rw [inL_iff.2 h] at hin; cases hin), h1⟩) fun x hx => ?_
          rcases List.mem_cons.1 hx with e | hx
          · rw [e]
            cases hq : s.heap[b]? with
            | none => exact absurd (by simp [List.getD, hq]) hne
            | some cs =>
              cases cs with
              | nil => exact absurd (by simp [List.getD, hq]) hne
              | cons c cs => exact ⟨c, cs, rfl⟩
          · exact h2 x hx
    · exact hidBlks_spec s ts acc h1 h2

/-- Regions whose order is drawn. -/
theorem dreg_ok (hT : TysOK P cx) (hE : EqOK P cx) (hm : P.follows .mixedOrders = true) {O : Oracle} (hO : OracleOK P O) : DregOK P cx O := by
  intro B n hs plan ms id ops s K r a w hr h hd Q hQ
  simp only [execA] at hr
  split at hr
  · rename_i hck
    simp only [Bool.and_eq_true] at hck
    obtain ⟨hck, hlen, hsel⟩ := hck
    have hlen := Nat.eq_of_beq_eq_true hlen
    have hsel' : ∀ (j : Nat) (o : Oper) cs b, ops[j]? = some o → o.op ≠ .select cs b := fun j o cs b ho e => by
      rw [List.all_eq_true] at hsel
      have := hsel o (by
        have := Array.mem_of_getElem? ho
        simpa using this)
      simp [noSel, e] at this
    obtain ⟨Own, ρ, M, hR⟩ := h
    have hR1 : RS B s a.tmps { w with drawn := w.drawn + 1 } Own ρ M := hR.away (hR.wi.to (fun g q hg => .inl ⟨q, hg⟩) (Nat.le_refl _) (fun _ _ _ => rfl)) (hR.fr.to rfl rfl rfl (Nat.le_refl _) fun _ _ _ => rfl) hR.own0 (fun g q _ hg => ⟨hg, rfl⟩)
    obtain ⟨hb1, hb2⟩ := hidBlks_spec s hs [] List.nodup_nil (fun b hb => (by cases hb))
    have hH := HS.hide hR1 (hidBlks s hs []) hb1 hb2
    have main := dreg_main hT hE hO ops ms (fun e a w => match e with | .panic _ => False | e => Q e a w) hsel' (fun c a w h => h)
      plan r (fun s => K .normal s) (fun s' a' w' hK hR' hd' => hQ .normal s' a' w' hK hR' hd') [] [] [] _ { s with heap := (hideAll s.heap (hidBlks s hs [])).2 } 0 a { w with drawn := w.drawn + 1 } _ _ ρ M (fun _ => none) (Array.replicate ops.size false) hck hr
      ⟨hH, fun i hi => (by cases hi), List.nodup_nil, fun i hi => (by cases hi)⟩ hd (fun x hx => (by cases hx))
      ⟨by simp, fun i hi => by simp [dnF, Array.getD, hi]⟩ rfl
    rw [Nat.add_zero, hlen] at main
    exact wp_mono (Q := fun e a w => match e with | .panic _ => False | e => Q e a w) (wp_region_any hm (wpAny_of_G _ _ _ _ _ _ main)) (fun e a w h => by cases e <;> first | exact h | exact h.elim)
  · cases hr

end
end Go.Proofs.YtognccpmaljamaaGreatDoor.Sa

/- AS, part S27: the types' table, the functions' tree, tables: checked by reckoning. -/
namespace Go.Proofs.YtognccpmaljamaaGreatDoor.Sa
open Go
variable [GlobMem]

noncomputable def skChk (P : Program) (e : Nat) : SK → Bool
  | .ints k => (match P.underlying e with | some (.int k') => decide (k' = k) | _ => false) && (match P.info? e with | some i => Nat.beq i.size 1 | none => false)
  | .strs => (match P.underlying e with | some .string => true | _ => false) && (match P.info? e with | some i => Nat.beq i.size 1 | none => false)
  | .strs2 => (match P.underlying e with | some (.struct _) => true | _ => false) && (match P.info? e with | some i => Nat.beq i.size 2 | none => false)
  | .rows z => (match P.info? e with | some i => Nat.beq i.size z | none => false)

noncomputable def fieldsChk (P : Program) : List (Nat × Nat × Nat) → List Go.Field → Bool
  | [], [] => true
  | f :: fs, g :: gs => (Nat.beq g.offset f.1 && (Nat.beq g.type f.2.2 && (!(g.name == "_") && (match P.info? g.type with | some i => Nat.beq i.size f.2.1 | none => false)))) && fieldsChk P fs gs
  | _, _ => false

noncomputable def kindChk (P : Program) : TK → TypeDesc → Bool
  | .int k, u => (match u with | .int k' => decide (k' = k) | _ => false)
  | .bool, u => (match u with | .bool => true | _ => false)
  | .str, u => (match u with | .string => true | _ => false)
  | .ptr, u => (match u with | .pointer _ => true | _ => false)
  | .slice e sk, u => (match u with | .slice e' => Nat.beq e' e && skChk P e sk | _ => false)
  | .struct fs, u => (match u with | .struct F => fieldsChk P fs F.toList | _ => false)
  | .array n e z, u => (match u with | .array n' e' => Nat.beq n' n && (Nat.beq e' e && (match P.info? e with | some i => Nat.beq i.size z | none => false)) | _ => false)
  | _, u => (match u with | .struct _ => false | .array _ _ => false | _ => true)

noncomputable def notAgg : AVal → Bool
  | .agg _ => false
  | _ => true

noncomputable def tyChk (P : Program) (t : Nat) (d : TD) : Bool :=
  (match P.underlying t with | some u => kindChk P d.k u | none => false) &&
  (match P.info? t with
    | some i => Nat.beq i.size d.size && (Nat.beq i.bytes d.bytes && (Nat.ble i.bytes 4096 && (match i.zero with
      | some z => (match d.agg? with
        | true => (match z with | .agg zs => zeroCells d.zero zs.toList && Nat.beq d.zero.length d.size | _ => false)
        | false => Nat.beq d.size 1 && (match d.zero with | [a] => zeroCell a z && (notAgg a && z.oneCell') | _ => false))
      | none => false)))
    | none => false)

noncomputable def TT.all (f : Nat → TD → Bool) : TT → Bool
  | .leaf => true
  | .node l k d r => l.all f && (f k d && r.all f)

theorem TT.all_find {f : Nat → TD → Bool} : ∀ {tt : TT}, tt.all f = true → ∀ t d, tt.find t = some d → f t d = true
  | .leaf, _, t, d, h => by cases h
  | .node l k e r, ha, t, d, h => by
    simp only [TT.all, Bool.and_eq_true] at ha
    rw [TT.find_node] at h
    split at h
    · rename_i e'
      cases h
      rw [Nat.eq_of_beq_eq_true e']
      exact ha.2.1
    · split at h
      · exact TT.all_find ha.1 t d h
      · exact TT.all_find ha.2.2 t d h

theorem fieldsChk_ok {P : Program} : ∀ {fs : List (Nat × Nat × Nat)} {gs : List Go.Field}, fieldsChk P fs gs = true → gs.length = fs.length ∧ ∀ (i : Nat) (f : Nat × Nat × Nat), fs[i]? = some f → ∃ g, gs[i]? = some g ∧ g.offset = f.1 ∧ g.type = f.2.2 ∧ g.name ≠ "_" ∧ (P.info? g.type).map (·.size) = some f.2.1
  | [], [], _ => ⟨rfl, fun i f h => by simp at h⟩
  | f :: fs, g :: gs, h => by
    simp only [fieldsChk, Bool.and_eq_true] at h
    obtain ⟨⟨h1, h2, h3, h4⟩, h5⟩ := h
    obtain ⟨k1, k2⟩ := fieldsChk_ok h5
    refine ⟨by simp [k1], fun i x hx => ?_⟩
    cases i with
    | zero =>
      simp at hx; subst hx
      refine ⟨g, rfl, Nat.eq_of_beq_eq_true h1, Nat.eq_of_beq_eq_true h2, by simpa using h3, ?_⟩
      cases hi : P.info? g.type with
      | none => simp [hi] at h4
      | some i => simp only [hi] at h4; simp [Nat.eq_of_beq_eq_true h4]
    | succ i => simp at hx; simpa using k2 i x hx
  | [], _ :: _, h => by simp [fieldsChk] at h
  | _ :: _, [], h => by simp [fieldsChk] at h

theorem size_of {P : Program} {e z : Nat} (h : (match P.info? e with | some i => Nat.beq i.size z | none => false) = true) : (P.info? e).map (·.size) = some z := by
  cases hi : P.info? e with
  | none => simp [hi] at h
  | some i => simp only [hi] at h; simp [Nat.eq_of_beq_eq_true h]

theorem skChk_ok {P : Program} {e : Nat} {sk : SK} (h : skChk P e sk = true) : skOK P e sk := by
  cases sk with
  | ints k =>
    simp only [skChk, Bool.and_eq_true] at h
    refine ⟨?_, size_of h.2⟩
    have h1 := h.1
    split at h1
    · rename_i k' hk; simp only [decide_eq_true_eq] at h1; rw [hk, h1]
    · cases h1
  | strs =>
    simp only [skChk, Bool.and_eq_true] at h
    refine ⟨?_, size_of h.2⟩
    have h1 := h.1
    split at h1
    · rename_i hk; exact hk
    · cases h1
  | strs2 =>
    simp only [skChk, Bool.and_eq_true] at h
    refine ⟨?_, size_of h.2⟩
    have h1 := h.1
    split at h1
    · rename_i fs hk; exact ⟨fs, hk⟩
    · cases h1
  | rows z => exact size_of h

theorem kindChk_ok {P : Program} {k : TK} {u : TypeDesc} (h : kindChk P k u = true) : kindOK P k u := by
  cases k with
  | int k => cases u <;> simp_all [kindChk, kindOK]
  | bool => cases u <;> simp_all [kindChk, kindOK]
  | str => cases u <;> simp_all [kindChk, kindOK]
  | ptr => cases u <;> simp_all [kindChk, kindOK]
  | slice e sk =>
    cases u <;> simp only [kindChk, Bool.false_eq_true, Bool.and_eq_true] at h
    obtain ⟨h1, h2⟩ := h
    have h1 := Nat.eq_of_beq_eq_true h1
    subst h1
    exact ⟨rfl, skChk_ok h2⟩
  | struct fs =>
    cases u <;> simp only [kindChk, Bool.false_eq_true] at h
    rename_i F
    obtain ⟨k1, k2⟩ := fieldsChk_ok h
    exact ⟨F, rfl, by simpa using k1, fun i f hf => by simpa using k2 i f hf⟩
  | array n e z =>
    cases u <;> simp only [kindChk, Bool.false_eq_true, Bool.and_eq_true] at h
    obtain ⟨h1, h2, h3⟩ := h
    have h1 := Nat.eq_of_beq_eq_true h1
    have h2 := Nat.eq_of_beq_eq_true h2
    subst h1 h2
    exact ⟨rfl, size_of h3⟩
  | func => cases u <;> simp_all [kindChk, kindOK]
  | ifc => cases u <;> simp_all [kindChk, kindOK]
  | tuple => cases u <;> simp_all [kindChk, kindOK]
  | other => cases u <;> simp_all [kindChk, kindOK]

theorem tyChk_ok {P : Program} {t : Nat} {d : TD} (h : tyChk P t d = true) : TyOK P t d := by
  simp only [tyChk, Bool.and_eq_true] at h
  obtain ⟨h1, h2⟩ := h
  constructor
  · split at h1
    · rename_i u hu; exact ⟨u, hu, kindChk_ok h1⟩
    · cases h1
  · split at h2
    · rename_i i hi
      simp only [Bool.and_eq_true] at h2
      obtain ⟨k1, k2, k3, k4⟩ := h2
      split at k4
      · rename_i z hz
        refine ⟨i, z, hi, Nat.eq_of_beq_eq_true k1, Nat.eq_of_beq_eq_true k2, hz, Nat.le_of_ble_eq_true k3, ?_⟩
        cases hd : d.agg? with
        | true =>
          simp only [hd] at k4 ⊢
          split at k4
          · rename_i zs
            simp only [Bool.and_eq_true] at k4
            exact ⟨zs.toList, by simp, k4.1, Nat.eq_of_beq_eq_true k4.2⟩
          · cases k4
        | false =>
          simp only [hd, Bool.and_eq_true] at k4 ⊢
          obtain ⟨m1, m2⟩ := k4
          refine ⟨Nat.eq_of_beq_eq_true m1, ?_⟩
          split at m2
          · rename_i a ha
            simp only [Bool.and_eq_true] at m2
            refine ⟨a, ha, m2.1, fun cs e => ?_, m2.2.2⟩
            have := m2.2.1
            rw [e] at this; cases this
          · cases m2
      · cases k4
    · cases h2

theorem tysOK_of {P : Program} {cx : Cx} (h : cx.ty.all (tyChk P) = true) : TysOK P cx := fun t d hd => tyChk_ok (TT.all_find h t d hd)

/-! ### tables -/
noncomputable def globM (glt : List (Nat × List AVal)) : Mem := fun g o => match findG g glt with
  | some cs => (match cs[o]? with | some (.int k n) => some (.int k n) | _ => none)
  | none => none

noncomputable def cellsOfA : List AVal → List Value
  | [] => []
  | .int k n :: l => .int k n :: cellsOfA l
  | _ :: _ => []

/-- The tables' blocks are whole. -/
noncomputable def globW (glt : List (Nat × List AVal)) (w : World) : Prop := ∀ g o c, globM glt g o = some c → ∃ cs e fz, findG g glt = some cs ∧ w.heap[g]? = some (.cells (cellsOfA cs).toArray e fz)

noncomputable abbrev globMem (glt : List (Nat × List AVal)) : GlobMem where
  M := globM glt
  W := globW glt
  keep w w' h hk := fun g o c hc => by
    obtain ⟨cs, e, fz, h1, h2⟩ := h g o c hc
    exact ⟨cs, e, fz, h1, by rw [hk g o c hc, h2]⟩
  lt w h g o c hc := by
    obtain ⟨cs, e, fz, h1, h2⟩ := h g o c hc
    exact (Array.getElem?_eq_some_iff.1 h2).1

noncomputable def intCells : List AVal → Bool
  | [] => true
  | .int _ _ :: l => intCells l
  | _ => false

theorem intCells_get : ∀ {l : List AVal}, intCells l = true → ∀ (i : Nat) a, l[i]? = some a → ∃ k n, a = .int k n
  | [], _, i, a, h => by simp at h
  | .int k n :: l, hl, i, a, h => by
    cases i with
    | zero => simp at h; exact ⟨k, n, h.symm⟩
    | succ i => exact intCells_get (l := l) hl i a (by simpa using h)

theorem globOK_of {cx : Cx} (hM : GlobMem.M = globM cx.glob) (h : cx.glob.all (fun x => intCells x.2) = true) : GlobOK cx := by
  intro g cs hg
  have hc : intCells cs = true := by
    have : ∀ l : List (Nat × List AVal), l.all (fun x => intCells x.2) = true → findG g l = some cs → intCells cs = true := by
      intro l
      induction l with
      | nil => intro _ h; cases h
      | cons x l ih =>
        obtain ⟨k, ds⟩ := x
        intro ha hf
        simp only [List.all_cons, Bool.and_eq_true] at ha
        unfold findG at hf
        split at hf
        · cases hf; exact ha.1
        · exact ih ha.2 hf
    exact this _ h hg
  rw [VC_iff, hM]
  intro i a ha
  obtain ⟨k, n, rfl⟩ := intCells_get hc i a ha
  exact ⟨.int k n, by simp [globM, hg, ha], by simp only [V]⟩

theorem eqOK_of {P : Program} {cx : Cx} (h : cx.eqs.all (fun t => !P.eqGuardType P.depth t && !P.stoodInHeld t) = true) (hg : GlobOK cx) : EqOK P cx := by
  refine ⟨fun t ht => ?_, hg⟩
  rw [List.all_eq_true] at h
  have := h t ht
  simpa using this

/-! ### functions -/
inductive FT where
  | leaf
  | node (l : FT) (k : Nat) (f : Func) (r : FT)

noncomputable def FT.find (x : FT) (t : Nat) : Option Func := FT.rec (motive := fun _ => Option Func) none (fun _ k d _ il ir => Bool.rec (motive := fun _ => Option Func) (Bool.rec (motive := fun _ => Option Func) ir il (Nat.blt t k)) (some d) (Nat.beq t k)) x
theorem FT.find_node (l : FT) (k : Nat) (d : Func) (r : FT) (t : Nat) : (FT.node l k d r).find t = (match Nat.beq t k with
    | true => some d
    | false => match Nat.blt t k with
      | true => l.find t
      | false => r.find t) := by
  show Bool.rec (motive := fun _ => Option Func) (Bool.rec (motive := fun _ => Option Func) (r.find t) (l.find t) (Nat.blt t k)) (some d) (Nat.beq t k) = _
  cases Nat.beq t k <;> cases Nat.blt t k <;> rfl

noncomputable def FT.all (p : Nat → Func → Prop) : FT → Prop
  | .leaf => True
  | .node l k f r => l.all p ∧ p k f ∧ r.all p

theorem FT.all_find {p : Nat → Func → Prop} : ∀ {t : FT}, t.all p → ∀ k f, t.find k = some f → p k f
  | .leaf, _, k, f, h => by cases h
  | .node l k' f' r, ha, k, f, h => by
    obtain ⟨h1, h2, h3⟩ := ha
    rw [FT.find_node] at h
    split at h
    · rename_i e; cases h; rw [Nat.eq_of_beq_eq_true e]; exact h2
    · split at h
      · exact FT.all_find h1 k f h
      · exact FT.all_find h3 k f h

theorem funsOK_of {P : Program} {ft : FT} {at_ : AT} (h : ft.all fun k f => P.funcs[k]? = some f ∧ (f.name == "runtime.NumGoroutine") = false) : FunsOK P ft.find at_ :=
  fun g ac fn _ hf => FT.all_find h g fn hf

end Go.Proofs.YtognccpmaljamaaGreatDoor.Sa

/- AS, part X1: contracts joined to an oracle. -/
namespace Go.Proofs.YtognccpmaljamaaGreatDoor.Sa
open Go

/-- What a function's contract answers. -/
abbrev Ans := List AVal → List (List AVal) → (AVal → List (List AVal) → Option Res) → Option Res

noncomputable def ext (k : Nat) (e : Ans) (O : Oracle) : Oracle := fun g args h K => match Nat.beq g k with
  | true => e args h K
  | false => O g args h K

variable [GlobMem]

def AnsOK (P : Program) (k : Nat) (e : Ans) : Prop := ∀ args h K r, e args h K = some r → CallOK P k args h fun v h' => K v h' = some r

theorem ext_ok {P : Program} {k : Nat} {e : Ans} {O : Oracle} (he : AnsOK P k e) (hO : OracleOK P O) : OracleOK P (ext k e O) := by
  intro g args h K r hr
  unfold ext at hr
  split at hr
  · rename_i hk
    rw [Nat.eq_of_beq_eq_true hk]
    exact he args h K r hr
  · exact hO g args h K r hr

/-- A contract out of a run by code. -/
theorem ans_of_run {P : Program} {cx : Cx} (hT : TysOK P cx) (hE : EqOK P cx) (hm : P.follows .mixedOrders = true) {fs : Nat → Option Func} {at_ : AT} (hF : FunsOK P fs at_) {O : Oracle} (hO : OracleOK P O) {k : Nat} {e : Ans}
    (h : ∀ args h K r, e args h K = some r → ∃ n, acall cx fs at_ O n k args h K = some r) : AnsOK P k e := fun args hp K r hr =>
  let ⟨n, hn⟩ := h args hp K r hr
  acall_ok hT hE (fun O hO => dreg_ok hT hE hm hO) hF hO n k args hp K r hn

theorem ans_of_fun {P : Program} {cx : Cx} (hT : TysOK P cx) (hE : EqOK P cx) (hm : P.follows .mixedOrders = true) {O : Oracle} (hO : OracleOK P O) {k : Nat} {f : Func} (hf : P.funcs[k]? = some f) (hnm : (f.name == "runtime.NumGoroutine") = false) {ac : AC} {e : Ans}
    (h : ∀ args h K r, e args h K = some r → ∃ n, funA cx O n ac f args h K = some r) : AnsOK P k e := fun args hp K r hr =>
  let ⟨n, hn⟩ := h args hp K r hr
  fun_ok hT hE (fun O hO => dreg_ok hT hE hm hO) hO n ac k f hf hnm args hp K r hn

end Go.Proofs.YtognccpmaljamaaGreatDoor.Sa
