/- A function's contract by its tree of cases: the tree is handed in, the kernel compares it with what the evaluator gives. -/
import Derived.Test.YtldmgdphelgffaaDoorPS17
namespace Go.PS

def AllP : List Prop → Prop
  | [] => True
  | p :: ps => p ∧ AllP ps

theorem AllP.mem : ∀ {l : List Prop}, AllP l → ∀ X ∈ l, X
  | [], _, X, h => by cases h
  | p :: ps, h, X, hX => by
    rcases List.mem_cons.1 hX with rfl | hX
    · exact h.1
    · exact AllP.mem h.2 X hX

/-- A tree of cases: an end with what is owed there; a decision; an item for the script. -/
inductive Tr (α : Type) where
  | leaf (a : α) (ob : List Prop)
  | node (c : Bool) (t f : Tr α)
  | say (x : It) (t : Tr α)

/-- What is to be shown of a tree: at each end what is owed, and Q. -/
def Tr.All {α : Type} (Q : α → Prop) : Tr α → Prop
  | .leaf a ob => AllP ob ∧ Q a
  | .node c t f => (c = true → t.All Q) ∧ (c = false → f.All Q)
  | .say _ t => t.All Q

def owes : List Ob → List Prop
  | [] => []
  | .dec _ _ :: r => owes r
  | .same c b :: r => (c = b) :: owes r
  | .owe X :: r => X :: owes r

/-- What is owed, but that tests are the same. -/
def owesS : List Ob → List Prop
  | [] => []
  | .dec _ _ :: r => owesS r
  | .same _ _ :: r => owesS r
  | .owe X :: r => X :: owesS r

def sames : List Ob → List (Bool × Bool)
  | [] => []
  | .same c b :: r => (c, b) :: sames r
  | .dec _ _ :: r => sames r
  | .owe _ :: r => sames r

def decs : List Ob → List (Bool × Bool)
  | [] => []
  | .dec c b :: r => (c, b) :: decs r
  | .same _ _ :: r => decs r
  | .owe _ :: r => decs r

theorem owes_mem : ∀ {l : List Ob} {X : Prop}, .owe X ∈ l → X ∈ owes l
  | [], X, h => by cases h
  | a :: r, X, h => by
    rcases List.mem_cons.1 h with h | h
    · subst h; exact List.mem_cons_self
    · have := owes_mem h
      cases a
      · exact this
      · exact List.mem_cons_of_mem _ this
      · exact List.mem_cons_of_mem _ this

theorem owes_same : ∀ {l : List Ob} {c b : Bool}, .same c b ∈ l → (c = b) ∈ owes l
  | [], _, _, h => by cases h
  | a :: r, c, b, h => by
    rcases List.mem_cons.1 h with h | h
    · subst h; exact List.mem_cons_self
    · have := owes_same h
      cases a
      · exact this
      · exact List.mem_cons_of_mem _ this
      · exact List.mem_cons_of_mem _ this

theorem owesS_mem : ∀ {l : List Ob} {X : Prop}, .owe X ∈ l → X ∈ owesS l
  | [], X, h => by cases h
  | a :: r, X, h => by
    rcases List.mem_cons.1 h with h | h
    · subst h; exact List.mem_cons_self
    · have := owesS_mem h
      cases a
      · exact this
      · exact List.mem_cons_of_mem _ this
      · exact this

theorem sames_mem : ∀ {l : List Ob} {c b : Bool}, .same c b ∈ l → (c, b) ∈ sames l
  | [], _, _, h => by cases h
  | a :: r, c, b, h => by
    rcases List.mem_cons.1 h with h | h
    · subst h; exact List.mem_cons_self
    · have := sames_mem h
      cases a
      · exact this
      · exact this
      · exact List.mem_cons_of_mem _ this

theorem decs_mem : ∀ {l : List Ob} {c b : Bool}, .dec c b ∈ l → (c, b) ∈ decs l
  | [], _, _, h => by cases h
  | a :: r, c, b, h => by
    rcases List.mem_cons.1 h with h | h
    · subst h; exact List.mem_cons_self
    · have := decs_mem h
      cases a
      · exact List.mem_cons_of_mem _ this
      · exact this
      · exact this

abbrev Lf (α : Type) := List (Option (List (Bool × Bool) × α × List Prop))

def leavesOf {α : Type} : Tr α → List (Bool × Bool) → Lf α
  | .leaf a ob, p => [some (p.reverse, a, ob)]
  | .node c t f, p => leavesOf t ((c, true) :: p) ++ leavesOf f ((c, false) :: p)
  | .say _ t, p => leavesOf t p

def oneRun {α : Type} : Option (α × List Ob) → Option (List (Bool × Bool) × α × List Prop)
  | some (a, ob) => some (decs ob, a, owes ob)
  | none => none

def leavesRun {α : Type} (run : Scr → Option (α × List Ob)) : Tr α → List It → Lf α
  | .leaf _ _, p => [oneRun (run p.reverse)]
  | .node _ t f, p => leavesRun run t (.bit true :: p) ++ leavesRun run f (.bit false :: p)
  | .say x t, p => leavesRun run t (x :: p)

theorem leaves_len {α : Type} (run : Scr → Option (α × List Ob)) : ∀ (t : Tr α) (p : List It) (q : List (Bool × Bool)), (leavesRun run t p).length = (leavesOf t q).length
  | .leaf _ _, _, _ => rfl
  | .node c t f, p, q => by
    simp only [leavesRun, leavesOf, List.length_append]
    rw [leaves_len run t (.bit true :: p) ((c, true) :: q), leaves_len run f (.bit false :: p) ((c, false) :: q)]
  | .say x t, p, q => leaves_len run t (x :: p) q

theorem tree_run {α : Type} {run : Scr → Option (α × List Ob)} {Q : α → Prop} : ∀ (t : Tr α) (p : List It) (q : List (Bool × Bool)), leavesRun run t p = leavesOf t q → (∀ x ∈ q, x.1 = x.2) → t.All Q → ∃ s a ob, run s = some (a, ob) ∧ (∀ X ∈ ob, X.holds) ∧ Q a
  | .leaf a ob, p, q, he, hq, hA => by
    simp only [leavesRun, leavesOf, List.cons.injEq, and_true] at he
    unfold oneRun at he
    split at he
    · rename_i a' ob' hr
      simp only [Option.some.injEq, Prod.mk.injEq] at he
      obtain ⟨h1, rfl, h3⟩ := he
      refine ⟨p.reverse, a', ob', hr, fun X hX => ?_, hA.2⟩
      cases X with
      | dec c b =>
        have := decs_mem hX
        rw [h1] at this
        exact hq (c, b) (by simpa using this)
      | owe X =>
        have := owes_mem hX
        rw [h3] at this
        exact AllP.mem hA.1 X this
      | same c b =>
        have := owes_same hX
        rw [h3] at this
        exact AllP.mem hA.1 _ this
    · cases he
  | .node c t f, p, q, he, hq, hA => by
    simp only [leavesRun, leavesOf] at he
    obtain ⟨h1, h2⟩ := List.append_inj he (leaves_len run t _ _)
    cases hc : c with
    | true =>
      subst hc
      exact tree_run t _ _ h1 (fun x hx => by rcases List.mem_cons.1 hx with rfl | hx; exact rfl; exact hq x hx) (hA.1 rfl)
    | false =>
      subst hc
      exact tree_run f _ _ h2 (fun x hx => by rcases List.mem_cons.1 hx with rfl | hx; exact rfl; exact hq x hx) (hA.2 rfl)
  | .say _ t, p, q, he, hq, hA => tree_run t _ q he hq hA

/-! The same, where tests that are held to be the same are compared by the kernel. -/
def oneRunS {α : Type} : Option (α × List Ob) → Option (List (Bool × Bool) × α × List Prop)
  | some (a, ob) => some (decs ob, a, owesS ob)
  | none => none

def oneSame {α : Type} (g : Bool × Bool → Bool) : Option (α × List Ob) → List Bool
  | some (_, ob) => (sames ob).map g
  | none => []

def leavesRunS {α : Type} (run : Scr → Option (α × List Ob)) : Tr α → List It → Lf α
  | .leaf _ _, p => [oneRunS (run p.reverse)]
  | .node _ t f, p => leavesRunS run t (.bit true :: p) ++ leavesRunS run f (.bit false :: p)
  | .say x t, p => leavesRunS run t (x :: p)

def sameRun {α : Type} (g : Bool × Bool → Bool) (run : Scr → Option (α × List Ob)) : Tr α → List It → List (List Bool)
  | .leaf _ _, p => [oneSame g (run p.reverse)]
  | .node _ t f, p => sameRun g run t (.bit true :: p) ++ sameRun g run f (.bit false :: p)
  | .say x t, p => sameRun g run t (x :: p)

theorem leavesS_len {α : Type} (run : Scr → Option (α × List Ob)) : ∀ (t : Tr α) (p : List It) (q : List (Bool × Bool)), (leavesRunS run t p).length = (leavesOf t q).length
  | .leaf _ _, _, _ => rfl
  | .node c t f, p, q => by
    simp only [leavesRunS, leavesOf, List.length_append]
    rw [leavesS_len run t (.bit true :: p) ((c, true) :: q), leavesS_len run f (.bit false :: p) ((c, false) :: q)]
  | .say x t, p, q => leavesS_len run t (x :: p) q

theorem same_len {α : Type} (run : Scr → Option (α × List Ob)) (g k : Bool × Bool → Bool) : ∀ (t : Tr α) (p : List It), (sameRun g run t p).length = (sameRun k run t p).length
  | .leaf _ _, _ => rfl
  | .node c t f, p => by
    simp only [sameRun, List.length_append]
    rw [same_len run g k t (.bit true :: p), same_len run g k f (.bit false :: p)]
  | .say x t, p => same_len run g k t (x :: p)

theorem map_same : ∀ {l : List (Bool × Bool)}, l.map Prod.fst = l.map Prod.snd → ∀ {c b : Bool}, (c, b) ∈ l → c = b
  | [], _, _, _, h => by cases h
  | (x, y) :: r, he, c, b, h => by
    simp only [List.map_cons, List.cons.injEq] at he
    rcases List.mem_cons.1 h with h | h
    · cases h; exact he.1
    · exact map_same he.2 h

theorem tree_runS {α : Type} {run : Scr → Option (α × List Ob)} {Q : α → Prop} : ∀ (t : Tr α) (p : List It) (q : List (Bool × Bool)), leavesRunS run t p = leavesOf t q → sameRun Prod.fst run t p = sameRun Prod.snd run t p → (∀ x ∈ q, x.1 = x.2) → t.All Q → ∃ s a ob, run s = some (a, ob) ∧ (∀ X ∈ ob, X.holds) ∧ Q a
  | .leaf a ob, p, q, he, hs, hq, hA => by
    simp only [leavesRunS, leavesOf, List.cons.injEq, and_true] at he
    simp only [sameRun, List.cons.injEq, and_true] at hs
    unfold oneRunS at he
    split at he
    · rename_i a' ob' hr
      simp only [Option.some.injEq, Prod.mk.injEq] at he
      obtain ⟨h1, rfl, h3⟩ := he
      rw [hr] at hs
      refine ⟨p.reverse, a', ob', hr, fun X hX => ?_, hA.2⟩
      cases X with
      | dec c b =>
        have := decs_mem hX
        rw [h1] at this
        exact hq (c, b) (by simpa using this)
      | owe X =>
        have := owesS_mem hX
        rw [h3] at this
        exact AllP.mem hA.1 X this
      | same c b => exact map_same hs (sames_mem hX)
    · cases he
  | .node c t f, p, q, he, hs, hq, hA => by
    simp only [leavesRunS, leavesOf] at he
    simp only [sameRun] at hs
    obtain ⟨h1, h2⟩ := List.append_inj he (leavesS_len run t _ _)
    obtain ⟨k1, k2⟩ := List.append_inj hs (same_len run _ _ t _)
    cases hc : c with
    | true =>
      subst hc
      exact tree_runS t _ _ h1 k1 (fun x hx => by rcases List.mem_cons.1 hx with rfl | hx; exact rfl; exact hq x hx) (hA.1 rfl)
    | false =>
      subst hc
      exact tree_runS f _ _ h2 k2 (fun x hx => by rcases List.mem_cons.1 hx with rfl | hx; exact rfl; exact hq x hx) (hA.2 rfl)
  | .say _ t, p, q, he, hs, hq, hA => tree_runS t _ q he hs hq hA

def runF (P : Program) (E : Env) (L : LEnv) (fn : Func) (args : List PV) (s : Scr) : Option (PV × List Ob) :=
  match runFn P E L (LoopSem P) fn args s with
  | some (r, ob, _) => some (r, ob)
  | none => none

/-- The slots that matter behind a loop: those told as 10000 more matter unless the function returns there. -/
def liveAt : Out → List Nat → List Nat
  | .ret, l => l.filter fun t => decide (t < 10000)
  | _, l => l.map fun t => t % 10000

/-- A round of a loop: the slots that matter. -/
def runC (P : Program) (E : Env) (L : LEnv) (live live' : List Nat) (c : Code) (T : List PV) (h : Hp) (s : Scr) : Option ((Out × List PV × Hp) × List Ob) :=
  match exec P E L (LoopSem P) c T h s with
  | some (.norm, T', h', ob, _) => match trim live T' h' with
    | some (T1, h1) => some ((.norm, T1, h1), ob)
    | none => none
  | some (o, T', h', ob, _) => match trim (liveAt o live') T' h' with
    | some (T1, h1) => some ((o, T1, h1), ob)
    | none => none
  | none => none

section
variable {P : Program} {E : Env} {L : LEnv}

/-- A FUNCTION's CONTRACT. -/
theorem fn_tr {f : FuncId} {fn : Func} {args : List PV} {r : PV} (hE : EnvOk P E) (L : LEnv) (hf : P.funcs[f]? = some fn) (t : Tr PV) (he : leavesRun (runF P E L fn args) t [] = leavesOf t []) (hA : t.All (· = r)) : Ok P f args r := by
  obtain ⟨s, a, ob, h1, h2, rfl⟩ := tree_run t _ _ he (by simp) hA
  unfold runF at h1
  split at h1
  · rename_i r' ob' s' hr
    cases h1
    exact fn_ok hE hf hr h2
  · cases h1

end

/-- The same with speculation. -/
theorem fn_trS {P : Program} {E : Env} {f : FuncId} {fn : Func} {args : List PV} {r : PV} (hE : EnvOk P E) (L : LEnv) (hf : P.funcs[f]? = some fn) (t : Tr PV) (he : leavesRunS (runF P E L fn args) t [] = leavesOf t []) (hs : sameRun Prod.fst (runF P E L fn args) t [] = sameRun Prod.snd (runF P E L fn args) t []) (hA : t.All (· = r)) : Ok P f args r := by
  obtain ⟨s, a, ob, h1, h2, rfl⟩ := tree_runS t _ _ he hs (by simp) hA
  unfold runF at h1
  split at h1
  · rename_i r' ob' s' hr
    cases h1
    exact fn_ok hE hf hr h2
  · cases h1

/-- What stands for a value as r does stands for it as r' does. -/
def RLe (r r' : PV) : Prop := ∀ (w : World) (Sx : Nat → Prop) (v : Value), RepS w Sx r v → RepS w Sx r' v

theorem RLe.refl (r : PV) : RLe r r := fun _ _ _ h => h
theorem RLe.of_eq {r r' : PV} (h : r = r') : RLe r r' := h ▸ RLe.refl r

/-- A function's contract, its result in another form. -/
theorem fn_trc {P : Program} {E : Env} {f : FuncId} {fn : Func} {args : List PV} {r : PV} (hE : EnvOk P E) (L : LEnv) (hf : P.funcs[f]? = some fn) (t : Tr PV) (he : leavesRun (runF P E L fn args) t [] = leavesOf t []) (hA : t.All (RLe · r)) : Ok P f args r := by
  obtain ⟨s, a, ob, h1, h2, h3⟩ := tree_run t _ _ he (by simp) hA
  unfold runF at h1
  split at h1
  · rename_i r' ob' s' hr
    cases h1
    intro w Sa vs q0 q1 q2 q3
    refine (fn_ok hE hf hr h2 w Sa vs q0 q1 q2 q3).mono ?_
    rintro e w' ⟨v, p1, p2, p3⟩
    exact ⟨v, p1, p2, h3 _ _ _ p3⟩
  · cases h1

/-- A function's contract, its result in another form, with speculation. -/
theorem fn_trcS {P : Program} {E : Env} {f : FuncId} {fn : Func} {args : List PV} {r : PV} (hE : EnvOk P E) (L : LEnv) (hf : P.funcs[f]? = some fn) (t : Tr PV) (he : leavesRunS (runF P E L fn args) t [] = leavesOf t []) (hs : sameRun Prod.fst (runF P E L fn args) t [] = sameRun Prod.snd (runF P E L fn args) t []) (hA : t.All (RLe · r)) : Ok P f args r := by
  obtain ⟨s, a, ob, h1, h2, h3⟩ := tree_runS t _ _ he hs (by simp) hA
  unfold runF at h1
  split at h1
  · rename_i r' ob' s' hr
    cases h1
    intro w Sa vs q0 q1 q2 q3
    refine (fn_ok hE hf hr h2 w Sa vs q0 q1 q2 q3).mono ?_
    rintro e w' ⟨v, p1, p2, p3⟩
    exact ⟨v, p1, p2, h3 _ _ _ p3⟩
  · cases h1

/-- A loop ends as told. -/
def LT.ends : LT → Out × List PV × Hp → Prop
  | .out o T h, x => x = (o, T, h)
  | .ite c t f, x => (c = true → t.ends x) ∧ (c = false → f.ends x)
  | .bad, _ => False

def LoopT (P : Program) (c : Code) (T : List PV) (h : Hp) (lt : LT) : Prop := ∃ x, lt.ends x ∧ LoopSem P c T h x.1 x.2.1 x.2.2

theorem LoopT.one {P : Program} {c : Code} {T T' : List PV} {h h' : Hp} {o : Out} (hl : LoopT P c T h (.out o T' h')) : LoopSem P c T h o T' h' := by
  obtain ⟨x, rfl, h2⟩ := hl
  exact h2
theorem LoopT.t {P : Program} {c : Code} {T : List PV} {h : Hp} {b : Bool} {t f : LT} (hl : LoopT P c T h (.ite b t f)) (hb : b = true) : LoopT P c T h t := by
  obtain ⟨x, h1, h2⟩ := hl
  exact ⟨x, h1.1 hb, h2⟩
theorem LoopT.f {P : Program} {c : Code} {T : List PV} {h : Hp} {b : Bool} {t f : LT} (hl : LoopT P c T h (.ite b t f)) (hb : b = false) : LoopT P c T h f := by
  obtain ⟨x, h1, h2⟩ := hl
  exact ⟨x, h1.2 hb, h2⟩

/-- What a round of a loop must show. -/
def Rnd (P : Program) (c : Code) (lt : LT) (x : Out × List PV × Hp) : Prop :=
  match x.1 with
  | .norm => LoopT P c x.2.1 x.2.2 lt
  | _ => lt.ends x

theorem LoopSem.trim {P : Program} {c : Code} {T T0 T' : List PV} {h h0 h' : Hp} {o : Out} {live : List Nat} (ht : PS.trim live T h = some (T0, h0)) : LoopSem P c T0 h0 o T' h' → LoopSem P c T h o T' h' := by
  rintro ⟨n, hn⟩
  exact ⟨n, fun w0 Sa a w Q hGI hSt hQ => hn w0 Sa a w Q hGI (trim_sound ht hSt) hQ⟩

theorem LoopSem.trim' {P : Program} {c : Code} {T T0 T' : List PV} {h h0 h' : Hp} {o : Out} {live : List Nat} (ht : PS.trim live T' h' = some (T0, h0)) : LoopSem P c T h o T' h' → LoopSem P c T h o T0 h0 := by
  rintro ⟨n, hn⟩
  exact ⟨n, fun w0 Sa a w Q hGI hSt hQ => hn w0 Sa a w Q hGI hSt fun a' w' hSt' => hQ a' w' (trim_sound ht hSt')⟩

/-- A LOOP. -/
theorem loop_tr {P : Program} {E : Env} {c : Code} {T : List PV} {h : Hp} {lt : LT} (hE : EnvOk P E) (L : LEnv) (live live' : List Nat) (t : Tr (Out × List PV × Hp)) (he : leavesRun (runC P E L live live' c T h) t [] = leavesOf t []) (hA : t.All (Rnd P c lt)) :
    LoopT P c T h lt := by
  obtain ⟨s, ⟨o1, T1, h1⟩, ob, h2, h3, h4⟩ := tree_run t _ _ he (by simp) hA
  unfold runC at h2
  split at h2
  · rename_i T2 hh2 ob2 s2 hr
    split at h2
    · rename_i T3 h3' htr
      cases h2
      obtain ⟨x, hx, hl⟩ := (h4 : LoopT P c T1 h1 lt)
      exact ⟨x, hx, loop_step hE hr h3 (hl.trim htr)⟩
    · cases h2
  · rename_i o2 T2 hh2 ob2 s2 hne hr
    split at h2
    · rename_i T3 h3' htr
      cases h2
      have ho : o1 ≠ .norm := hne
      refine ⟨(o1, T1, h1), ?_, (loop_out hE hr h3 ho).trim' htr⟩
      cases o1 with
      | norm => exact absurd rfl ho
      | _ => exact h4
    · cases h2
  · cases h2

/-- A loop, with speculation. -/
theorem loop_trS {P : Program} {E : Env} {c : Code} {T : List PV} {h : Hp} {lt : LT} (hE : EnvOk P E) (L : LEnv) (live live' : List Nat) (t : Tr (Out × List PV × Hp)) (he : leavesRunS (runC P E L live live' c T h) t [] = leavesOf t []) (hs : sameRun Prod.fst (runC P E L live live' c T h) t [] = sameRun Prod.snd (runC P E L live live' c T h) t []) (hA : t.All (Rnd P c lt)) :
    LoopT P c T h lt := by
  obtain ⟨s, ⟨o1, T1, h1⟩, ob, h2, h3, h4⟩ := tree_runS t _ _ he hs (by simp) hA
  unfold runC at h2
  split at h2
  · rename_i T2 hh2 ob2 s2 hr
    split at h2
    · rename_i T3 h3' htr
      cases h2
      obtain ⟨x, hx, hl⟩ := (h4 : LoopT P c T1 h1 lt)
      exact ⟨x, hx, loop_step hE hr h3 (hl.trim htr)⟩
    · cases h2
  · rename_i o2 T2 hh2 ob2 s2 hne hr
    split at h2
    · rename_i T3 h3' htr
      cases h2
      have ho : o1 ≠ .norm := hne
      refine ⟨(o1, T1, h1), ?_, (loop_out hE hr h3 ho).trim' htr⟩
      cases o1 with
      | norm => exact absurd rfl ho
      | _ => exact h4
    · cases h2
  · cases h2

/-- From the last round to the first. -/
theorem upto {n : Int} {Q : Int → Prop} (hs : ∀ i, 0 ≤ i → i ≤ n → (i < n → Q (i + 1)) → Q i) : ∀ i, 0 ≤ i → i ≤ n → Q i := by
  have key : ∀ (k : Nat) (i : Int), 0 ≤ i → i + k = n → Q i := by
    intro k
    induction k with
    | zero => intro i h0 h1; exact hs i h0 (by omega) (fun h => by omega)
    | succ k ih => intro i h0 h1; exact hs i h0 (by omega) (fun _ => ih (i + 1) (by omega) (by omega))
  intro i h0 h1
  exact key (n - i).toNat i h0 (by omega)

/-- The loop whose first region has the number k. -/
def findLoop (k : Nat) : Code → Option Code
  | .seq a b => match findLoop k a with
    | some c => some c
    | none => findLoop k b
  | .cond _ a b => match findLoop k a with
    | some c => some c
    | none => findLoop k b
  | .block _ a => findLoop k a
  | .loop a => if firstReg a = some k then some a else findLoop k a
  | _ => none

def loopAt (fn : Func) (k : Nat) : Code := ((fn.body.bind (findLoop k))).getD .skip

abbrev U : PV := .sc Go.undef
abbrev I (n : Int) : PV := .sc (.int .i64 n)
abbrev U8 (n : Int) : PV := .sc (.int .u8 n)
abbrev S (b : ByteArray) : PV := .sc (.string b)
abbrev Z : PV := .any
abbrev Bo (b : Bool) : PV := .sc (.bool b)

/-! The environment. -/
def E0 : Env := fun _ _ => none
def L0 : LEnv := fun _ => ([], [], fun _ _ => .bad)

theorem E0_ok (P : Program) : EnvOk P E0 := by intro g as r ob h; cases h

/-- One more contract. -/
def addE (f : FuncId) (d : List PV → Option (PV × List Prop)) (E : Env) : Env := fun g as => if g = f then d as else E g as

theorem addE_ok {P : Program} {E : Env} {f : FuncId} {d : List PV → Option (PV × List Prop)} (hE : EnvOk P E) (hd : ∀ as r ob, d as = some (r, ob) → (∀ X ∈ ob, X) → Ok P f as r) : EnvOk P (addE f d E) := by
  intro g as r ob h hob
  unfold addE at h
  split at h
  · rename_i hg; subst hg; exact hd as r ob h hob
  · exact hE g as r ob h hob
end Go.PS
