/- The evaluator of codes and of functions, over a law for each region. No condition. -/
import Derived.Test.YtbmekbpgoakkbaaGreatDoorVxI
import Derived.LoopN
import Derived.Scope
import Derived.Recover
set_option linter.unusedVariables false
set_option linter.unusedSimpArgs false
set_option linter.constructorNameAsVariable false
set_option linter.unusedSectionVars false
namespace Go.Proofs.YtbmekbpgoakkbaaGreatDoor.Vx
open Go
variable [JC]

abbrev S := Regs → Heap → Nat → Bool

structure St (D : List Deferred) (E : Env) (regs : Regs) (h : Heap) (nxt nt : Nat) (a : Act) (w : World) : Prop where
  regs : Rr E regs a.tmps
  size : a.tmps.size = nt
  defers : a.defers = D
  heap : HR E h nxt w
  j : JC.J E h w
variable {D : List Deferred}

theorem St.put {E : Env} {regs : Regs} {h : Heap} {nxt nt : Nat} {a : Act} {w : World} (s : St D E regs h nxt nt a w) {d : Nat} {v : AV} {V : Value} (hd : d + 1 ≤ nt) (rv : Rv E v V) :
    St D E (T.set v regs d) h nxt nt (a.put (some d) V) w := by
  refine ⟨fun t => ?_, by simpa [Act.put] using s.size, by simpa [Act.put] using s.defers, s.heap, s.j⟩
  by_cases e : t = d
  · subst e
    have hlt : t < a.tmps.size := by rw [s.size]; omega
    rcases T.get_set_eq AV.no v regs t with g | g <;> rw [g]
    · simpa [Act.put, hlt] using rv
    · simp [Rv]
  · rw [T.get_set_ne _ _ _ _ _ e]
    have : (a.put (some d) V).tmps.getD t undef = a.tmps.getD t undef := by
      simp [Act.put, Array.getElem?_setIfInBounds_ne (Ne.symm e)]
    rw [this]; exact s.regs t

theorem St.mono {E E' : Env} {regs : Regs} {h h' : Heap} {nxt nxt' nt : Nat} {a : Act} {w w' : World} (s : St D E regs h nxt nt a w) (g : Goes E h w E' h' w') (hr : HR E' h' nxt' w') : St D E' regs h' nxt' nt a w' :=
  ⟨s.regs.mono g.ext, s.size, s.defers, hr, JC.goes s.heap s.j g hr⟩

/-- what a piece of code leaves, and what goes on from there; the codes of ways out: 0, a panic (its value stands ahead of the registers), 2 i + 2, an exit, 2 l + 1, a jump -/
def LeavesC (C : Regs → Prop) (D : List Deferred) (E : Env) (h : Heap) (w : World) (nt : Nat) (kn : S) (kx : Nat → S) (kr : S) : Exit → Act → World → Prop := fun e a' w' =>
  ∃ E' regs' h' nxt', St D E' regs' h' nxt' nt a' w' ∧ Goes E h w E' h' w' ∧ (match e with
    | .normal => kn regs' h' nxt' = true
    | .exit i => kx (Nat.mul 2 (Nat.succ i)) regs' h' nxt' = true
    | .goto l => kx (Nat.succ (Nat.mul 2 l)) regs' h' nxt' = true
    | .ret => kr regs' h' nxt' = true
    | .panic c => C regs' ∧ ∃ V v, c = [{ v := V, recovered := false }] ∧ Rv E' v V ∧ kx 0 (.node v regs' .nil) h' nxt' = true
    | _ => False)
abbrev Leaves := LeavesC fun _ => True

theorem LeavesC.before {C : Regs → Prop} {E E1 : Env} {h h1 : Heap} {w w1 : World} {nt : Nat} {kn : S} {kx : Nat → S} {kr : S} {e : Exit} {a' : Act} {w' : World} (g : Goes E h w E1 h1 w1) (l : LeavesC C D E1 h1 w1 nt kn kx kr e a' w') :
    LeavesC C D E h w nt kn kx kr e a' w' := by
  obtain ⟨E', regs', h', nxt', s, g', r⟩ := l
  exact ⟨E', regs', h', nxt', s, g.trans g', r⟩
theorem Leaves.before {E E1 : Env} {h h1 : Heap} {w w1 : World} {nt : Nat} {kn : S} {kx : Nat → S} {kr : S} {e : Exit} {a' : Act} {w' : World} (g : Goes E h w E1 h1 w1) (l : Leaves D E1 h1 w1 nt kn kx kr e a' w') :
    Leaves D E h w nt kn kx kr e a' w' := LeavesC.before g l
theorem LeavesC.weak {C : Regs → Prop} {E : Env} {h : Heap} {w : World} {nt : Nat} {kn : S} {kx : Nat → S} {kr : S} {e : Exit} {a' : Act} {w' : World} (l : LeavesC C D E h w nt kn kx kr e a' w') : Leaves D E h w nt kn kx kr e a' w' := by
  obtain ⟨E', regs', h', nxt', s, g', r⟩ := l
  refine ⟨E', regs', h', nxt', s, g', ?_⟩
  cases e <;> first | exact r | exact ⟨trivial, r.2⟩

/-- where a panic goes -/
noncomputable def kxP (kx0 : S) (regs : Regs) : K := fun v h nxt => kx0 (.node v regs .nil) h nxt
theorem Leaves.thrown {E : Env} {regs : Regs} {h : Heap} {nxt nt : Nat} {a : Act} {w : World} {kn : S} {kx : Nat → S} {kr : S} (st : St D E regs h nxt nt a w) {V : Value} {w' : World} (g : Gives E h w (kxP (kx 0) regs) V w') :
    Leaves D E h w nt kn kx kr (.panic [{ v := V, recovered := false }]) a w' := by
  obtain ⟨v, h', nxt', E', r, hr, gs, hk⟩ := g
  exact ⟨E', regs, h', nxt', st.mono gs hr, gs, trivial, V, v, rfl, r, hk⟩

/-! ### Regions whose order is that of the text -/
/-- is an operation wanted? -/
noncomputable def wantK (ops : Array Oper) (o : Oper) (regs : Regs) (h : Heap) (yes no : Heap → Bool) : Bool := match o.guard with
  | none => yes h
  | some (j, b) => match (ops[j]?).bind (·.dst) with
    | some d => (match T.get .no regs d with
      | .b x => bc x (bc b (yes h) (no h)) (bc b (no h) (yes h))
      | .un => no h
      | .x .b e => condK (.x .b e) h (fun h => bc b (yes h) (no h)) (fun h => bc b (no h) (yes h))
      | _ => false)
    | none => no h

theorem wanted_at {regs : Regs} {E : Env} {a : Act} {ops : Array Oper} {o : Oper} {j : Nat} {b x : Bool} {d : Tmp} (hg : o.guard = some (j, b)) (hd : (ops[j]?).bind (·.dst) = some d) (rd : a.tmps.getD d undef = .bool x) :
    Region.wanted o (yielded ops a.tmps) = (x == b) := by
  have hlt : d < a.tmps.size := by
    rcases Nat.lt_or_ge d a.tmps.size with hh | hh
    · exact hh
    · simp [Array.getElem?_eq_none hh, undef] at rd
  have hget : a.tmps[d]? = some (.bool x) := by
    simp [hlt] at rd ⊢; exact rd
  have hy : yielded ops a.tmps j = some x := by simp [yielded, hd, hget]
  simp only [Region.wanted, hg, hy]
  cases x <;> cases b <;> rfl
theorem not_wanted_un {a : Act} {ops : Array Oper} {o : Oper} {j : Nat} {b : Bool} {d : Tmp} (hg : o.guard = some (j, b)) (hd : (ops[j]?).bind (·.dst) = some d) (rd : a.tmps.getD d undef = undef) :
    Region.wanted o (yielded ops a.tmps) = false := by
  have hy : yielded ops a.tmps j = none := by
    simp only [yielded, hd, Option.bind_some]
    cases hget : a.tmps[d]? with
    | none => rfl
    | some v =>
      have : v = undef := by simpa [hget] using rd
      subst this; rfl
  simp [Region.wanted, hg, hy]

theorem wantK_ok {E : Env} {regs : Regs} {h : Heap} {nxt : Nat} {w : World} {a : Act} {ops : Array Oper} {o : Oper} {yes no : Heap → Bool} (he : wantK ops o regs h yes no = true) (r : Rr E regs a.tmps) (hr : HR E h nxt w) :
    ∃ h1, HR E h1 nxt w ∧ Fk h h1 ∧ ((Region.wanted o (yielded ops a.tmps) = true ∧ yes h1 = true) ∨ (Region.wanted o (yielded ops a.tmps) = false ∧ no h1 = true)) := by
  unfold wantK at he
  split at he
  · rename_i hg
    exact ⟨h, hr, Fk.refl h, .inl ⟨by simp [Region.wanted, hg], he⟩⟩
  · rename_i j b hg
    split at he
    · rename_i d hd
      have rd := r d
      split at he
      · rename_i x hx
        rw [hx, Rv] at rd
        have hw := wanted_at (regs := regs) (E := E) hg hd rd
        refine ⟨h, hr, Fk.refl h, ?_⟩
        rw [hw]
        cases x <;> cases b <;> simp_all [bc]
      · rename_i hx
        rw [hx, Rv] at rd
        exact ⟨h, hr, Fk.refl h, .inr ⟨not_wanted_un hg hd rd, he⟩⟩
      · rename_i e hx
        rw [hx] at rd
        obtain ⟨x, h1, hv, hr1, fk, hk⟩ := condK_ok he rd hr
        have hw := wanted_at (regs := regs) (E := E) hg hd hv
        refine ⟨h1, hr1, fk, ?_⟩
        rw [hw]
        cases x <;> cases b <;> simp_all [bc]
      · cases he
    · rename_i hd
      have hy : yielded ops a.tmps j = none := by simp [yielded, hd]
      exact ⟨h, hr, Fk.refl h, .inr ⟨by simp [Region.wanted, hg, hy], he⟩⟩

/-- the same where memory plays no part -/
noncomputable def wantP (ops : Array Oper) (o : Oper) (regs : Regs) (yes no : Bool) : Bool := match o.guard with
  | none => yes
  | some (j, b) => match (ops[j]?).bind (·.dst) with
    | some d => (match T.get .no regs d with
      | .b x => bc x (bc b yes no) (bc b no yes)
      | .un => no
      | .x .b _ => bc yes no false
      | _ => false)
    | none => no
theorem wantP_ok {E : Env} {regs : Regs} {a : Act} {ops : Array Oper} {o : Oper} {yes no : Bool} (he : wantP ops o regs yes no = true) (r : Rr E regs a.tmps) :
    (Region.wanted o (yielded ops a.tmps) = true ∧ yes = true) ∨ (Region.wanted o (yielded ops a.tmps) = false ∧ no = true) := by
  unfold wantP at he
  split at he
  · rename_i hg
    exact .inl ⟨by simp [Region.wanted, hg], he⟩
  · rename_i j b hg
    split at he
    · rename_i d hd
      have rd := r d
      split at he
      · rename_i x hx
        rw [hx, Rv] at rd
        have hw := wanted_at (regs := regs) (E := E) hg hd rd
        rw [hw]
        cases x <;> cases b <;> simp_all [bc]
      · rename_i hx
        rw [hx, Rv] at rd
        exact .inr ⟨not_wanted_un hg hd rd, he⟩
      · obtain ⟨h1, h2⟩ := bc_and he
        cases Region.wanted o (yielded ops a.tmps)
        · exact .inr ⟨rfl, h2⟩
        · exact .inl ⟨rfl, h1⟩
      · cases he
    · rename_i hd
      have hy : yielded ops a.tmps j = none := by simp [yielded, hd]
      exact .inr ⟨by simp [Region.wanted, hg, hy], he⟩

noncomputable def putK (dst : Option Tmp) (nt : Nat) (v : AV) (regs : Regs) (k : Regs → Bool) : Bool := match dst with
  | none => k regs
  | some d => bc (Nat.ble (d + 1) nt) (T.setK v regs d k) false

theorem putK_ok {E : Env} {regs : Regs} {h : Heap} {nxt nt : Nat} {a : Act} {w : World} {dst : Option Tmp} {v : AV} {V : Value} {k : Regs → Bool} (he : putK dst nt v regs k = true) (s : St D E regs h nxt nt a w) (rv : Rv E v V) :
    ∃ regs', St D E regs' h nxt nt (a.put dst V) w ∧ k regs' = true := by
  cases dst with
  | none => exact ⟨regs, s, he⟩
  | some d =>
    obtain ⟨h1, h2⟩ := bc_and he
    rw [T.setK_eq] at h2
    exact ⟨_, s.put (Nat.le_of_ble_eq_true h1) rv, h2⟩

theorem wpOps_weaken {P : Program} {ops : Array Oper} {Q Q' : Exit → Act → World → Prop} (hq : ∀ e a w, Q e a w → Q' e a w) : ∀ (l : List Nat) (a1 : Act) (w2 : World), wpOps P ops Q l a1 w2 → wpOps P ops Q' l a1 w2 := by
  intro l
  induction l with
  | nil => intro a1 w2 hh; exact hq _ _ _ hh
  | cons i l ih =>
    intro a1 w2 hh
    rw [wpOps_cons] at *
    unfold wpOp at *
    split
    · rename_i hn; simp only [hn] at hh; exact ih _ _ hh
    · rename_i o' ho'
      simp only [ho'] at hh
      split
      · rename_i hw'
        simp only [hw', if_true] at hh
        rcases hh with hh | ⟨h1, a2, w3, h2⟩
        · refine .inl ?_
          have h3 := Oper.wp_mono ih hh
          unfold Oper.wp at *
          generalize (execOp a1.eval o').run P w2 = r at *
          cases r with
          | ok n w4 =>
            cases n <;> simp only [Oper.upon] at h3 ⊢ <;> first
              | exact h3
              | (refine Calls.mono h3 ?_
                 intro e w5 he5
                 cases e with
                 | returned v => exact he5
                 | panicked c => exact hq _ _ _ he5
                 | outgrown => obtain ⟨a6, w6, h6⟩ := he5; exact ⟨a6, w6, hq _ _ _ h6⟩)
          | halt x w4 => cases x <;> simp only [Oper.upon] at h3 ⊢ <;> first | exact hq _ _ _ h3 | exact h3
        · exact .inr ⟨h1, a2, w3, hq _ _ _ h2⟩
      · rename_i hw'
        simp only [hw'] at hh
        exact ih _ _ hh

noncomputable def evOps (P : Program) (call : CallF) (ext : Exts) (nt : Nat) (ops : Array Oper) (l : List Oper) (kq : S) : S → S :=
  List.rec (motive := fun _ => S → S) (fun kn => kn)
    (fun o _ ih kn regs h nxt => wantK ops o regs h
      (fun h => evOp P call ext (kxP kq regs) o.op regs h nxt fun v h' nxt' => putK o.dst nt v regs fun regs' => ih kn regs' h' nxt')
      (fun h => putK o.dst nt .un regs fun regs' => ih kn regs' h nxt)) l

theorem evOps_ok {P : Program} {call : CallF} {ext : Exts} (hcall : CallOK P call) (hext : ExtOK P ext) {nt : Nat} {ops : Array Oper} {kn : S} {kx : Nat → S} {kr : S} :
    ∀ (l : List Oper) (s : Nat), l = ops.toList.drop s → ∀ {E : Env} {regs : Regs} {h : Heap} {nxt : Nat} {a : Act} {w : World}, evOps P call ext nt ops l (kx 0) kn regs h nxt = true → St D E regs h nxt nt a w →
      wpOps P ops (Leaves D E h w nt kn kx kr) (List.range' s l.length) a w
  | [], s, _, E, regs, h, nxt, a, w, he, st => ⟨E, regs, h, nxt, st, Goes.refl _ _ _, he⟩
  | o :: l, s, hl, E, regs, h, nxt, a, w, he, st => by
    have hos : ops[s]? = some o := by
      have := congrArg (fun l => l[0]?) hl
      simpa using this.symm
    have hl' : l = ops.toList.drop (s + 1) := by
      have := congrArg List.tail hl
      simpa using this
    have he : wantK ops o regs h
      (fun h => evOp P call ext (kxP (kx 0) regs) o.op regs h nxt fun v h' nxt' => putK o.dst nt v regs fun regs' => evOps P call ext nt ops l (kx 0) kn regs' h' nxt')
      (fun h => putK o.dst nt .un regs fun regs' => evOps P call ext nt ops l (kx 0) kn regs' h nxt) = true := he
    obtain ⟨h, hr1, fk, he⟩ := wantK_ok he st.regs st.heap
    refine wpOps_weaken (fun e a w hh => Leaves.before fk.goes hh) _ _ _ ?_
    have st : St D E regs h nxt nt a w := ⟨st.regs, st.size, st.defers, hr1, JC.goes st.heap st.j fk.goes hr1⟩
    rw [List.length_cons, List.range'_succ, wpOps_cons]
    unfold wpOp
    simp only [hos]
    rcases he with ⟨h1, he⟩ | ⟨h1, he⟩
    · rw [if_pos h1]
      refine .inl ?_
      refine Oper.wp_mono ?_ (evOp_ok hcall hext he st.regs st.heap st.j (Leaves D E h w nt kn kx kr) fun V w' g => Leaves.thrown st g)
      rintro a' w' ⟨V, rfl, v, h', nxt', E', rv, hr', g, hk⟩
      obtain ⟨regs', st', hk⟩ := putK_ok hk (st.mono g hr') rv
      exact wpOps_weaken (fun e a w hh => Leaves.before g hh) _ _ _ (evOps_ok hcall hext l (s + 1) hl' hk st')
    · rw [if_neg (by simp [h1])]
      obtain ⟨regs', st', hk⟩ := putK_ok he st (V := undef) (by rw [Rv])
      exact evOps_ok hcall hext l (s + 1) hl' hk st'

/-- a law for regions that draw their order -/
abbrev DrawF := Array Oper → Nat → S → S → S
def DrawOK (P : Program) (draw : DrawF) : Prop := ∀ (D : List Deferred) (id : Nat) (ops : Array Oper) (nt : Nat) (kn : S) (kx : Nat → S) (kr : S) (E : Env) (regs : Regs) (h : Heap) (nxt : Nat) (a : Act) (w : World),
  draw ops nt (kx 0) kn regs h nxt = true → St D E regs h nxt nt a w → (Code.region id ops true).wp P (Leaves D E h w nt kn kx kr) a w

/-! ### Code -/
noncomputable def loopK (body : S → S) (kn : Nat) : S :=
  Nat.rec (motive := fun _ => S) (fun _ _ _ => false) (fun _ ih => body ih) kn

/-- from the beginning alone -/
noncomputable def onlyK (en : Nat) (s : S) : S := Nat.rec (motive := fun _ => S) s (fun _ _ _ _ _ => false) en
theorem onlyK_ok {en : Nat} {s : S} {regs : Regs} {h : Heap} {nxt : Nat} (he : onlyK en s regs h nxt = true) : en = 0 ∧ s regs h nxt = true := by
  cases en with
  | zero => exact ⟨rfl, he⟩
  | succ n => cases he
noncomputable def hasL (c : Code) (l : Nat) : Bool := (findLabel c l).isSome
noncomputable def bcS (b : Bool) (x y : S) : S := Bool.rec (motive := fun _ => S) y x b
theorem bcS_eq (b : Bool) (x y : S) (regs : Regs) (h : Heap) (nxt : Nat) : bcS b x y regs h nxt = bc b (x regs h nxt) (y regs h nxt) := by cases b <;> rfl

/-- ways out of a scope: a jump to a label of its own goes on there -/
noncomputable def jumpK (c : Code) (go : Nat → (Nat → S) → S) (kx : Nat → S) (n : Nat) : Nat → S :=
  Nat.rec (motive := fun _ => Nat → S) (fun i => bcS (bc (Nat.beq (Nat.mod i 2) 1) (hasL c (Nat.div i 2)) false) (fun _ _ _ => false) (kx i))
    (fun _ ih i => bcS (bc (Nat.beq (Nat.mod i 2) 1) (hasL c (Nat.div i 2)) false) (go (Nat.succ (Nat.div i 2)) ih) (kx i)) n

/-- 'en': 0, from the beginning; l + 1, from the label l on -/
noncomputable def evCode (P : Program) (call : CallF) (ext : Exts) (draw : DrawF) (lf nt : Nat) (c : Code) : Nat → S → (Nat → S) → S → S :=
  Code.rec (motive := fun _ => Nat → S → (Nat → S) → S → S)
    (fun en kn _ _ => onlyK en kn)
    (fun _ ops d en kn kx _ => onlyK en fun regs h nxt => bc d (draw ops nt (kx 0) kn regs h nxt) (evOps P call ext nt ops ops.toList (kx 0) kn regs h nxt))
    (fun a _ iha ihb en kn kx kr => Nat.rec (motive := fun _ => S) (iha 0 (ihb 0 kn kx kr) kx kr) (fun l _ => bcS (hasL a l) (iha (Nat.succ l) (ihb 0 kn kx kr) kx kr) (ihb (Nat.succ l) kn kx kr)) en)
    (fun x _ _ iht ihe en kn kx kr => onlyK en fun regs h nxt => opd regs x fun v => condK v h (fun h => iht 0 kn kx kr regs h nxt) (fun h => ihe 0 kn kx kr regs h nxt))
    (fun id _ ih en kn kx kr => onlyK en (ih 0 kn (fun i regs h nxt => bc (Nat.beq i (Nat.mul 2 (Nat.succ id))) (kn regs h nxt) (kx i regs h nxt)) kr))
    (fun _ ih en _ kx kr => onlyK en (loopK (fun kn => ih 0 kn kx kr) lf))
    (fun _ _ _ _ _ _ _ _ _ _ _ _ _ => false)
    (fun id en _ kx _ => onlyK en (kx (Nat.mul 2 (Nat.succ id))))
    (fun c ih en kn kx kr => onlyK en (ih 0 kn (jumpK c (fun e k => ih e kn k kr) kx lf) kr))
    (fun l en kn _ _ => Nat.rec (motive := fun _ => S) kn (fun l' _ => bcS (Nat.beq l l') kn (fun _ _ _ => false)) en)
    (fun l en _ kx _ => onlyK en (kx (Nat.succ (Nat.mul 2 l))))
    (fun en _ _ kr => onlyK en kr)
    (fun _ _ _ _ _ _ _ _ => false) c

/-- a scope: its jumps come to an end -/
def scopeQ (P : Program) (c : Code) (Q : Exit → Act → World → Prop) : Nat → Exit → Act → World → Prop
  | 0, .goto l, a, w => findLabel c l = none ∧ Q (.goto l) a w
  | n + 1, .goto l, a, w => (findLabel c l = none ∧ Q (.goto l) a w) ∨ ∃ rest, findLabel c l = some rest ∧ rest.wp P (scopeQ P c Q n) a w
  | _, e, a, w => Q e a w

theorem wp_scope_fuel {P : Program} {c : Code} {Q : Exit → Act → World → Prop} (n : Nat) {a : Act} {w : World} (first : c.wp P (scopeQ P c Q n) a w) : (Code.scope c).wp P Q a w := by
  intro b k cs
  have key : ∀ n e a w, scopeQ P c Q n e a w → ∀ {s : Machine}, Arrives P s b (.inScope c :: k) cs e a w → ∃ e' a' w', Q e' a' w' ∧ Arrives P s b k cs e' a' w' := by
    intro n
    induction n with
    | zero =>
      intro e a w hq s harr
      cases e with
      | normal => exact ⟨.normal, a, w, hq, Steps.trans harr (.one step_inScope)⟩
      | exit id => exact ⟨.exit id, a, w, hq, fun k' hk => harr k' (by simp [exitTo, hk])⟩
      | goto l => exact ⟨.goto l, a, w, hq.2, fun k' hk => harr k' (by simp [gotoIn, hq.1, hk])⟩
      | ret => exact ⟨_, a, w, hq, harr⟩
      | panic ch => exact ⟨_, a, w, hq, harr⟩
      | outgrown => exact ⟨_, a, w, hq, harr⟩
    | succ n ih =>
      intro e a w hq s harr
      cases e with
      | normal => exact ⟨.normal, a, w, hq, Steps.trans harr (.one step_inScope)⟩
      | exit id => exact ⟨.exit id, a, w, hq, fun k' hk => harr k' (by simp [exitTo, hk])⟩
      | goto l =>
        rcases hq with ⟨hl, hq⟩ | ⟨rest, hl, hr⟩
        · exact ⟨.goto l, a, w, hq, fun k' hk => harr k' (by simp [gotoIn, hl, hk])⟩
        · obtain ⟨e1, a1, w1, hq1, harr1⟩ := hr b (.inScope c :: k) cs
          have hs := harr (.code rest :: .inScope c :: k) (by simp [gotoIn, hl])
          exact ih e1 a1 w1 hq1 (.of_steps hs harr1)
      | ret => exact ⟨_, a, w, hq, harr⟩
      | panic ch => exact ⟨_, a, w, hq, harr⟩
      | outgrown => exact ⟨_, a, w, hq, harr⟩
  obtain ⟨e, a1, w1, hq, harr⟩ := first b (.inScope c :: k) cs
  obtain ⟨e', a', w', hq', harr'⟩ := key n e a1 w1 hq harr
  exact ⟨e', a', w', hq', .of_steps (.one step_scope) harr'⟩

/-- what stands behind the entry -/
def entryOf (c : Code) : Nat → Option Code
  | 0 => some c
  | l + 1 => findLabel c l

theorem evCode_ok {P : Program} {call : CallF} {ext : Exts} {draw : DrawF} (hcall : CallOK P call) (hext : ExtOK P ext) (hdraw : DrawOK P draw) {lf nt : Nat} :
    ∀ (c : Code) (en : Nat) (kn : S) (kx : Nat → S) (kr : S) (E : Env) (regs : Regs) (h : Heap) (nxt : Nat) (a : Act) (w : World), evCode P call ext draw lf nt c en kn kx kr regs h nxt = true → St D E regs h nxt nt a w →
      ∀ c', entryOf c en = some c' → c'.wp P (Leaves D E h w nt kn kx kr) a w := by
  intro c
  induction c with
  | skip =>
    intro en kn kx kr E regs h nxt a w he st c' hc
    obtain ⟨rfl, he⟩ := onlyK_ok he
    cases hc
    exact wp_skip ⟨E, regs, h, nxt, st, Goes.refl _ _ _, he⟩
  | region id ops d =>
    intro en kn kx kr E regs h nxt a w he st c' hc
    obtain ⟨rfl, he⟩ := onlyK_ok he
    cases hc
    rcases bc_or he with ⟨rfl, he⟩ | ⟨rfl, he⟩
    · exact hdraw D id ops nt kn kx kr E regs h nxt a w he st
    · refine wp_region ?_
      have := evOps_ok hcall hext (kx := kx) (kr := kr) ops.toList 0 (by simp) he st
      rwa [← List.range_eq_range', Array.length_toList] at this
  | seq x y ihx ihy =>
    intro en kn kx kr E regs h nxt a w he st c' hc
    have both : ∀ {e1 : Nat} {x' : Code}, entryOf x e1 = some x' → evCode P call ext draw lf nt x e1 (evCode P call ext draw lf nt y 0 kn kx kr) kx kr regs h nxt = true → (Code.seq x' y).wp P (Leaves D E h w nt kn kx kr) a w := by
      intro e1 x' hx he
      refine wp_seq (wp_mono (ihx e1 (evCode P call ext draw lf nt y 0 kn kx kr) kx kr E regs h nxt a w he st x' hx) ?_)
      intro e a' w' hl
      cases e with
      | normal =>
        obtain ⟨E', regs', h', nxt', st', g, hk⟩ := hl
        exact wp_mono (ihy 0 kn kx kr E' regs' h' nxt' a' w' hk st' y rfl) fun e a2 w2 h2 => h2.before g
      | _ => exact hl
    cases en with
    | zero =>
      cases hc
      exact both (e1 := 0) rfl he
    | succ l =>
      have he : bcS (hasL x l) (evCode P call ext draw lf nt x (l + 1) (evCode P call ext draw lf nt y 0 kn kx kr) kx kr) (evCode P call ext draw lf nt y (l + 1) kn kx kr) regs h nxt = true := he
      have hc : findLabel (.seq x y) l = some c' := hc
      rw [bcS_eq] at he
      unfold findLabel at hc
      rcases bc_or he with ⟨hl, he⟩ | ⟨hl, he⟩
      · unfold hasL at hl
        cases hf : findLabel x l with
        | none => rw [hf] at hl; cases hl
        | some x' =>
          rw [hf] at hc
          cases hc
          exact both (e1 := l + 1) hf he
      · unfold hasL at hl
        cases hf : findLabel x l with
        | some x' => rw [hf] at hl; cases hl
        | none =>
          rw [hf] at hc
          exact ihy (l + 1) kn kx kr E regs h nxt a w he st c' hc
  | cond x t e iht ihe =>
    intro en kn kx kr E regs h nxt a w he st c' hc
    obtain ⟨rfl, he⟩ := onlyK_ok he
    cases hc
    have he : opd regs x (fun v => condK v h (fun h => evCode P call ext draw lf nt t 0 kn kx kr regs h nxt) (fun h => evCode P call ext draw lf nt e 0 kn kx kr regs h nxt)) = true := he
    obtain ⟨v, rv, he⟩ := opd_ok he st.regs
    obtain ⟨b, h1, hv, hr1, fk, he⟩ := condK_ok he rv st.heap
    refine wp_mono (wp_cond (Q := Leaves D E h1 w nt kn kx kr) hv ?_) fun e a w hh => Leaves.before fk.goes hh
    rcases he with ⟨rfl, he⟩ | ⟨rfl, he⟩
    · exact iht 0 kn kx kr E regs h1 nxt a w he ⟨st.regs, st.size, st.defers, hr1, JC.goes st.heap st.j fk.goes hr1⟩ t rfl
    · exact ihe 0 kn kx kr E regs h1 nxt a w he ⟨st.regs, st.size, st.defers, hr1, JC.goes st.heap st.j fk.goes hr1⟩ e rfl
  | block id c ih =>
    intro en kn kx kr E regs h nxt a w he st c' hc
    obtain ⟨rfl, he⟩ := onlyK_ok he
    cases hc
    refine wp_block (wp_mono (ih 0 kn (fun i regs h nxt => bc (Nat.beq i (Nat.mul 2 (Nat.succ id))) (kn regs h nxt) (kx i regs h nxt)) kr E regs h nxt a w he st c rfl) ?_)
    intro e a' w' hl
    cases e with
    | exit i =>
      obtain ⟨E', regs', h', nxt', st', g, hk⟩ := hl
      simp only [Exit.inBlock]
      rcases bc_or hk with ⟨hi, hk⟩ | ⟨hi, hk⟩
      · have hi : 2 * (i + 1) = 2 * (id + 1) := Nat.eq_of_beq_eq_true hi
        rw [if_pos (by omega)]
        exact ⟨E', regs', h', nxt', st', g, hk⟩
      · have hi : 2 * (i + 1) ≠ 2 * (id + 1) := Nat.ne_of_beq_eq_false hi
        rw [if_neg (by omega)]
        exact ⟨E', regs', h', nxt', st', g, hk⟩
    | goto l =>
      obtain ⟨E', regs', h', nxt', st', g, hk⟩ := hl
      rcases bc_or hk with ⟨hi, hk⟩ | ⟨hi, hk⟩
      · have hi : 2 * l + 1 = 2 * (id + 1) := Nat.eq_of_beq_eq_true hi
        omega
      · exact ⟨E', regs', h', nxt', st', g, hk⟩
    | panic ch =>
      obtain ⟨E', regs', h', nxt', st', g, _, V, v, hc, rv, hk⟩ := hl
      rcases bc_or hk with ⟨hi, hk⟩ | ⟨hi, hk⟩
      · have hi : 0 = 2 * (id + 1) := Nat.eq_of_beq_eq_true hi
        omega
      · exact ⟨E', regs', h', nxt', st', g, trivial, V, v, hc, rv, hk⟩
    | _ => exact hl
  | loop c ih =>
    intro en kn kx kr E regs h nxt a w he st c' hc
    obtain ⟨rfl, he⟩ := onlyK_ok he
    cases hc
    have he : loopK (fun kn => evCode P call ext draw lf nt c 0 kn kx kr) lf regs h nxt = true := he
    refine wp_loop_rounds lf ?_
    have key : ∀ (n : Nat) (E1 : Env) (regs : Regs) (h1 : Heap) (nxt : Nat) (a : Act) (w1 : World), Goes E h w E1 h1 w1 → loopK (fun kn => evCode P call ext draw lf nt c 0 kn kx kr) n regs h1 nxt = true → St D E1 regs h1 nxt nt a w1 →
        Code.rounds P c (Leaves D E h w nt kn kx kr) n a w1 := by
      intro n
      induction n with
      | zero => intro E1 regs h1 nxt a w1 _ he _; cases he
      | succ n ihn =>
        intro E1 regs h1 nxt a w1 g he st
        rw [rounds_succ]
        refine wp_mono (ih 0 (loopK (fun kn => evCode P call ext draw lf nt c 0 kn kx kr) n) kx kr E1 regs h1 nxt a w1 he st c rfl) ?_
        intro e a' w' hl
        cases e with
        | normal =>
          obtain ⟨E', regs', h', nxt', st', g', hk⟩ := hl
          exact ihn E' regs' h' nxt' a' w' (g.trans g') hk st'
        | exit i => obtain ⟨E', regs', h', nxt', st', g', hk⟩ := hl; exact ⟨E', regs', h', nxt', st', g.trans g', hk⟩
        | ret => obtain ⟨E', regs', h', nxt', st', g', hk⟩ := hl; exact ⟨E', regs', h', nxt', st', g.trans g', hk⟩
        | goto l => obtain ⟨E', regs', h', nxt', st', g', hk⟩ := hl; exact ⟨E', regs', h', nxt', st', g.trans g', hk⟩
        | panic l => obtain ⟨E', regs', h', nxt', st', g', hk⟩ := hl; exact ⟨E', regs', h', nxt', st', g.trans g', hk⟩
        | outgrown => obtain ⟨_, _, _, _, _, _, hk⟩ := hl; exact hk.elim
    exact key lf E regs h nxt a w (Goes.refl _ _ _) he st
  | exit id =>
    intro en kn kx kr E regs h nxt a w he st c' hc
    obtain ⟨rfl, he⟩ := onlyK_ok he
    cases hc
    exact wp_exit ⟨E, regs, h, nxt, st, Goes.refl _ _ _, he⟩
  | scope c ih =>
    intro en kn kx kr E regs h nxt a w he st c' hc
    obtain ⟨rfl, he⟩ := onlyK_ok he
    cases hc
    have key : ∀ (n : Nat) (en : Nat) (E1 : Env) (regs : Regs) (h1 : Heap) (nxt : Nat) (a : Act) (w1 : World) (c1 : Code), Goes E h w E1 h1 w1 →
        evCode P call ext draw lf nt c en kn (jumpK c (fun e k => evCode P call ext draw lf nt c e kn k kr) kx n) kr regs h1 nxt = true → St D E1 regs h1 nxt nt a w1 → entryOf c en = some c1 →
        c1.wp P (scopeQ P c (Leaves D E h w nt kn kx kr) n) a w1 := by
      intro n
      induction n with
      | zero =>
        intro en E1 regs h1 nxt a w1 c1 g he st hc
        refine wp_mono (ih en kn _ kr E1 regs h1 nxt a w1 he st c1 hc) ?_
        intro e a' w' hl
        cases e with
        | normal => exact hl.before g
        | exit i =>
          obtain ⟨E', regs', h', nxt', st', g', hk⟩ := hl
          have hk : bcS (bc (Nat.beq (Nat.mod (Nat.mul 2 (Nat.succ i)) 2) 1) (hasL c (Nat.div (Nat.mul 2 (Nat.succ i)) 2)) false) (fun _ _ _ => false) (kx (Nat.mul 2 (Nat.succ i))) regs' h' nxt' = true := hk
          rw [show Nat.mod (Nat.mul 2 (Nat.succ i)) 2 = 0 from Nat.mul_mod_right 2 (i + 1)] at hk
          exact ⟨E', regs', h', nxt', st', g.trans g', hk⟩
        | goto l =>
          obtain ⟨E', regs', h', nxt', st', g', hk⟩ := hl
          have hk : bcS (bc (Nat.beq (Nat.mod (Nat.succ (Nat.mul 2 l)) 2) 1) (hasL c (Nat.div (Nat.succ (Nat.mul 2 l)) 2)) false) (fun _ _ _ => false) (kx (Nat.succ (Nat.mul 2 l))) regs' h' nxt' = true := hk
          rw [show Nat.mod (Nat.succ (Nat.mul 2 l)) 2 = 1 from (by show (2 * l + 1) % 2 = 1; omega), show Nat.div (Nat.succ (Nat.mul 2 l)) 2 = l from (by show (2 * l + 1) / 2 = l; omega)] at hk
          have hk : bcS (hasL c l) (fun _ _ _ => false) (kx (Nat.succ (Nat.mul 2 l))) regs' h' nxt' = true := hk
          rw [bcS_eq] at hk
          rcases bc_or hk with ⟨_, hk⟩ | ⟨hl, hk⟩
          · cases hk
          · refine ⟨?_, E', regs', h', nxt', st', g.trans g', hk⟩
            unfold hasL at hl
            cases hf : findLabel c l with
            | none => rfl
            | some _ => rw [hf] at hl; cases hl
        | ret => exact hl.before g
        | panic l =>
          obtain ⟨E', regs', h', nxt', st', g', _, V, v, hc, rv, hk⟩ := hl
          exact ⟨E', regs', h', nxt', st', g.trans g', trivial, V, v, hc, rv, hk⟩
        | outgrown => obtain ⟨_, _, _, _, _, _, hk⟩ := hl; exact hk.elim
      | succ n ihn =>
        intro en E1 regs h1 nxt a w1 c1 g he st hc
        refine wp_mono (ih en kn _ kr E1 regs h1 nxt a w1 he st c1 hc) ?_
        intro e a' w' hl
        cases e with
        | normal => exact hl.before g
        | exit i =>
          obtain ⟨E', regs', h', nxt', st', g', hk⟩ := hl
          have hk : bcS (bc (Nat.beq (Nat.mod (Nat.mul 2 (Nat.succ i)) 2) 1) (hasL c (Nat.div (Nat.mul 2 (Nat.succ i)) 2)) false) (evCode P call ext draw lf nt c (Nat.succ (Nat.div (Nat.mul 2 (Nat.succ i)) 2)) kn (jumpK c (fun e k => evCode P call ext draw lf nt c e kn k kr) kx n) kr) (kx (Nat.mul 2 (Nat.succ i))) regs' h' nxt' = true := hk
          rw [show Nat.mod (Nat.mul 2 (Nat.succ i)) 2 = 0 from Nat.mul_mod_right 2 (i + 1)] at hk
          exact ⟨E', regs', h', nxt', st', g.trans g', hk⟩
        | goto l =>
          obtain ⟨E', regs', h', nxt', st', g', hk⟩ := hl
          have hk : bcS (bc (Nat.beq (Nat.mod (Nat.succ (Nat.mul 2 l)) 2) 1) (hasL c (Nat.div (Nat.succ (Nat.mul 2 l)) 2)) false) (evCode P call ext draw lf nt c (Nat.succ (Nat.div (Nat.succ (Nat.mul 2 l)) 2)) kn (jumpK c (fun e k => evCode P call ext draw lf nt c e kn k kr) kx n) kr) (kx (Nat.succ (Nat.mul 2 l))) regs' h' nxt' = true := hk
          rw [show Nat.mod (Nat.succ (Nat.mul 2 l)) 2 = 1 from (by show (2 * l + 1) % 2 = 1; omega), show Nat.div (Nat.succ (Nat.mul 2 l)) 2 = l from (by show (2 * l + 1) / 2 = l; omega)] at hk
          have hk : bcS (hasL c l) (evCode P call ext draw lf nt c (l + 1) kn (jumpK c (fun e k => evCode P call ext draw lf nt c e kn k kr) kx n) kr) (kx (Nat.succ (Nat.mul 2 l))) regs' h' nxt' = true := hk
          rw [bcS_eq] at hk
          rcases bc_or hk with ⟨hl, hk⟩ | ⟨hl, hk⟩
          · unfold hasL at hl
            cases hf : findLabel c l with
            | none => rw [hf] at hl; cases hl
            | some rest => exact .inr ⟨rest, hf, ihn (l + 1) E' regs' h' nxt' a' w' rest (g.trans g') hk st' hf⟩
          · refine .inl ⟨?_, E', regs', h', nxt', st', g.trans g', hk⟩
            unfold hasL at hl
            cases hf : findLabel c l with
            | none => rfl
            | some _ => rw [hf] at hl; cases hl
        | ret => exact hl.before g
        | panic l =>
          obtain ⟨E', regs', h', nxt', st', g', _, V, v, hc, rv, hk⟩ := hl
          exact ⟨E', regs', h', nxt', st', g.trans g', trivial, V, v, hc, rv, hk⟩
        | outgrown => obtain ⟨_, _, _, _, _, _, hk⟩ := hl; exact hk.elim
    exact wp_scope_fuel lf (key lf 0 E regs h nxt a w c (Goes.refl _ _ _) he st rfl)
  | label l =>
    intro en kn kx kr E regs h nxt a w he st c' hc
    cases en with
    | zero => cases hc; exact wp_label ⟨E, regs, h, nxt, st, Goes.refl _ _ _, he⟩
    | succ l' =>
      have he : bcS (Nat.beq l l') kn (fun _ _ _ => false) regs h nxt = true := he
      rw [bcS_eq] at he
      have hc : findLabel (.label l) l' = some c' := hc
      rcases bc_or he with ⟨_, he⟩ | ⟨_, he⟩
      · unfold findLabel at hc
        split at hc
        · cases hc; exact wp_skip ⟨E, regs, h, nxt, st, Goes.refl _ _ _, he⟩
        · cases hc
      · cases he
  | goto l =>
    intro en kn kx kr E regs h nxt a w he st c' hc
    obtain ⟨rfl, he⟩ := onlyK_ok he
    cases hc
    exact wp_goto ⟨E, regs, h, nxt, st, Goes.refl _ _ _, he⟩
  | ret =>
    intro en kn kx kr E regs h nxt a w he st c' hc
    obtain ⟨rfl, he⟩ := onlyK_ok he
    cases hc
    exact wp_ret ⟨E, regs, h, nxt, st, Goes.refl _ _ _, he⟩
  | _ => intro en kn kx kr E regs h nxt a w he; cases he

/-! ### Functions -/
noncomputable def evRes1 (P : Program) (r : ResultVar) (regs : Regs) (h : Heap) (k : AV → Bool) : Bool := match r with
  | .tmp t => force (T.get .no regs t) k
  | .cell t ty => evLoad P ty (T.get .no regs t) h k

noncomputable def evResL (P : Program) (l : List ResultVar) (regs : Regs) (h : Heap) : (List AV → Bool) → Bool :=
  List.rec (motive := fun _ => (List AV → Bool) → Bool) (fun k => k []) (fun r _ ih k => evRes1 P r regs h fun v => ih fun l => k (v :: l)) l

noncomputable def evRes (P : Program) (fn : Func) (regs : Regs) (h : Heap) (k : AV → Bool) : Bool :=
  evResL P fn.results.toList regs h fun l => match l with
    | [v] => k v
    | l => k (.tu l)

theorem evRes1_ok {P : Program} {r : ResultVar} {regs : Regs} {h : Heap} {k : AV → Bool} {E : Env} {nxt nt : Nat} {a : Act} {w : World} (he : evRes1 P r regs h k = true) (st : St D E regs h nxt nt a w) :
    ∃ v V, (match r with | .tmp t => pure (a.tmps.getD t undef) | .cell b t => do loadVar t (← asAddr (a.tmps.getD b undef)) : Sem Value).run P w = .ok V w ∧ Rv E v V ∧ k v = true := by
  cases r with
  | tmp t =>
    have he : force (T.get .no regs t) k = true := he
    rw [force_eq] at he
    exact ⟨_, a.tmps.getD t undef, rfl, st.regs t, he⟩
  | cell t ty =>
    have he : evLoad P ty (T.get .no regs t) h k = true := he
    obtain ⟨v, V, h1, h2, h3⟩ := evLoad_ok he (st.regs t) st.heap
    refine ⟨v, V, ?_, h2, h3⟩
    rw [← h1]
    have : ∃ A, a.tmps.getD t undef = .pointer (some A) := by
      have rt := st.regs t
      unfold evLoad at he
      split at he <;> try (cases he; done)
      · rename_i id off heq
        rw [heq, Rv] at rt
        obtain ⟨L, _, e⟩ := rt
        exact ⟨_, e⟩
      · rename_i g off heq
        rw [heq, Rv] at rt
        exact ⟨_, rt⟩
    obtain ⟨A, e⟩ := this
    show (do loadVar ty (← asAddr (a.tmps.getD t undef)) : Sem Value).run P w = _
    rw [e]
    rfl

theorem evResL_ok {P : Program} {regs : Regs} {h : Heap} {E : Env} {nxt nt : Nat} {a : Act} {w : World} (st : St D E regs h nxt nt a w) : ∀ (l : List ResultVar) {k : List AV → Bool}, evResL P l regs h k = true →
    ∃ vs VS, (l.mapM fun r => (match r with | .tmp t => pure (a.tmps.getD t undef) | .cell b t => do loadVar t (← asAddr (a.tmps.getD b undef)) : Sem Value)).run P w = .ok VS w ∧ RvL E vs VS ∧ k vs = true
  | [], k, he => ⟨[], [], by simp, .nil, he⟩
  | r :: l, k, he => by
    have he : evRes1 P r regs h (fun v => evResL P l regs h fun l => k (v :: l)) = true := he
    obtain ⟨v, V, h1, h2, he⟩ := evRes1_ok he st
    obtain ⟨vs, VS, h3, h4, he⟩ := evResL_ok st l he
    refine ⟨v :: vs, V :: VS, ?_, .cons h2 h4, he⟩
    rw [List.mapM_cons, Sem.run_bind, h1]
    simp only [Result.andThen_ok, Sem.run_bind, h3, Sem.run_pure]

theorem evRes_ok {P : Program} {fn : Func} {regs : Regs} {h : Heap} {k : AV → Bool} {E : Env} {nxt nt : Nat} {a : Act} {w : World} (he : evRes P fn regs h k = true) (st : St D E regs h nxt nt a w) :
    ∃ v V, (results fn a.tmps).run P w = .ok V w ∧ Rv E v V ∧ k v = true := by
  obtain ⟨vs, VS, h1, h2, he⟩ := evResL_ok st _ he
  have hm : (results fn a.tmps).run P w = .ok (if h : VS.toArray.size = 1 then VS.toArray[0] else .tuple VS.toArray) w := by
    unfold results
    rw [Sem.run_bind]
    have e : ∀ (f : ResultVar → Sem Value), (fn.results.mapM f).run P w = ((fn.results.toList.mapM f).run P w).andThen fun l w' => .ok l.toArray w' := by
      intro f
      rw [Array.mapM_eq_mapM_toList, Sem.run_map]
    rw [e]
    exact (congrArg (fun r : Result (List Value) => (r.andThen fun l w' => Result.ok l.toArray w').andThen fun vs w' => (pure (if h : vs.size = 1 then vs[0] else .tuple vs) : Sem Value).run P w') h1).trans rfl
  have hlen := h2.length
  split at he
  · rename_i v
    obtain ⟨V, rfl, rv⟩ := h2.one
    exact ⟨v, V, by rw [hm]; simp, rv, he⟩
  · rename_i hne
    have : VS.length ≠ 1 := by
      intro hl
      rw [hl] at hlen
      match vs, hlen with
      | [v], _ => exact hne v rfl
    exact ⟨_, .tuple VS.toArray, by rw [hm]; simp [this], by rw [Rv]; exact ⟨VS, rfl, h2⟩, he⟩

/-! ### Functions that defer -/
def isDefer (o : Oper) : Bool := match o.op with
  | .defer _ => true
  | _ => false
def isRec (o : Oper) : Bool := match o.op with
  | .call c => (match c.callee with
    | .builtin .recover => true
    | _ => false)
  | _ => false
def anyOp (p : Oper → Bool) : Code → Bool
  | .region _ ops _ => ops.toList.any p
  | .seq a b => anyOp p a || anyOp p b
  | .cond _ a b => anyOp p a || anyOp p b
  | .block _ c => anyOp p c
  | .loop c => anyOp p c
  | .scope c => anyOp p c
  | _ => false

/-- what is deferred -/
def RD (E : Env) (a : AV) (d : Deferred) : Prop := ∃ g l m vs ws, a = .fn (.func g) l m ∧ d = ⟨.fn (.func g) (List.toArray ws), List.toArray vs⟩ ∧ RvL E l vs ∧ RvL E m ws
def RDL (E : Env) : List AV → List Deferred → Prop
  | [], ds => ds = []
  | a :: as, ds => ∃ d ds', ds = d :: ds' ∧ RD E a d ∧ RDL E as ds'
theorem RDL.mono {E E' : Env} (h : E.le E') : ∀ {as : List AV} {ds : List Deferred}, RDL E as ds → RDL E' as ds
  | [], _, r => r
  | a :: as, _, r => by
    obtain ⟨d, ds', e, ⟨g, l, m, vs, ws, e1, e2, r1, r2⟩, r3⟩ := r
    exact ⟨d, ds', e, ⟨g, l, m, vs, ws, e1, e2, RvL.mono h l vs r1, RvL.mono h m ws r2⟩, RDL.mono h r3⟩

abbrev SD := List AV → S
def LeavesF (E : Env) (h : Heap) (w : World) (nt : Nat) (kn : SD) (kx : Nat → SD) (kr : SD) : Exit → Act → World → Prop := fun e a' w' =>
  ∃ D ds E' regs' h' nxt', St D E' regs' h' nxt' nt a' w' ∧ RDL E' ds D ∧ Goes E h w E' h' w' ∧ (match e with
    | .normal => kn ds regs' h' nxt' = true
    | .exit i => kx (Nat.mul 2 (Nat.succ i)) ds regs' h' nxt' = true
    | .goto l => kx (Nat.succ (Nat.mul 2 l)) ds regs' h' nxt' = true
    | .ret => kr ds regs' h' nxt' = true
    | .panic c => ∃ V v, c = [{ v := V, recovered := false }] ∧ Rv E' v V ∧ kx 0 ds (.node v regs' .nil) h' nxt' = true
    | _ => False)
theorem LeavesF.thrown {D : List Deferred} {ds : List AV} {E : Env} {regs : Regs} {h : Heap} {nxt nt : Nat} {a : Act} {w : World} {kn : SD} {kx : Nat → SD} {kr : SD} (st : St D E regs h nxt nt a w) (rd : RDL E ds D) {V : Value} {w' : World}
    (g : Gives E h w (kxP (kx 0 ds) regs) V w') : LeavesF E h w nt kn kx kr (.panic [{ v := V, recovered := false }]) a w' := by
  obtain ⟨v, h', nxt', E', r, hr, gs, hk⟩ := g
  exact ⟨D, ds, E', regs, h', nxt', st.mono gs hr, rd.mono gs.ext, gs, V, v, rfl, r, hk⟩
theorem LeavesF.before {E E1 : Env} {h h1 : Heap} {w w1 : World} {nt : Nat} {kn : SD} {kx : Nat → SD} {kr : SD} {e : Exit} {a' : Act} {w' : World} (g : Goes E h w E1 h1 w1) (l : LeavesF E1 h1 w1 nt kn kx kr e a' w') :
    LeavesF E h w nt kn kx kr e a' w' := by
  obtain ⟨D, ds, E', regs', h', nxt', s, rd, g', r⟩ := l
  exact ⟨D, ds, E', regs', h', nxt', s, rd, g.trans g', r⟩

noncomputable def evDefer (c : Call) (regs : Regs) (ds : List AV) (k : List AV → Bool) : Bool := opds regs c.args.toList fun args => match c.callee with
  | .value f => opd regs f fun f => (match f with
    | .fn (.func g) first captured => forceL (first ++ args) fun l => k (.fn (.func g) l captured :: ds)
    | _ => false)
  | _ => false

noncomputable def evOpF (P : Program) (call : CallF) (ext : Exts) (kp : K) (op : Op) (ds : List AV) (regs : Regs) (h : Heap) (nxt : Nat) (k : List AV → K) : Bool := match op with
  | .defer c => evDefer c regs ds fun ds => k ds .un h nxt
  | op => evOp P call ext kp op regs h nxt (k ds)

noncomputable def evOpsF (P : Program) (call : CallF) (ext : Exts) (nt : Nat) (ops : Array Oper) (l : List Oper) (kq : SD) : SD → SD :=
  List.rec (motive := fun _ => SD → SD) (fun kn => kn)
    (fun o _ ih kn ds regs h nxt => wantK ops o regs h
      (fun h => evOpF P call ext (kxP (kq ds) regs) o.op ds regs h nxt fun ds v h' nxt' => putK o.dst nt v regs fun regs' => ih kn ds regs' h' nxt')
      (fun h => putK o.dst nt .un regs fun regs' => ih kn ds regs' h nxt)) l

theorem evDefer_ok {P : Program} {c : Call} {regs : Regs} {ds : List AV} {k : List AV → Bool} {o : Oper} {E : Env} {a : Act} {w : World} (he : evDefer c regs ds k = true) (hop : o.op = .defer c) (r : Rr E regs a.tmps) :
    ∃ v d, (execOp a.eval o).run P w = .ok (.defer d) w ∧ RD E v d ∧ k (v :: ds) = true := by
  unfold evDefer at he
  obtain ⟨args, ra, he⟩ := opds_ok r _ he
  have ra : RvL E args (c.args.map a.eval).toList := by simpa using ra
  split at he <;> try (cases he; done)
  rename_i f hc
  obtain ⟨fv, hfv, he⟩ := opd_ok he r
  split at he <;> try (cases he; done)
  rename_i g first captured
  rw [Rv] at hfv
  obtain ⟨vs, ws, hf, h1, h2⟩ := hfv
  rw [forceL_eq] at he
  refine ⟨_, ⟨.fn (.func g) ws.toArray, (vs ++ (c.args.map a.eval).toList).toArray⟩, ?_, ⟨g, _, _, _, ws, rfl, rfl, h1.append ra, h2⟩, he⟩
  have e : vs.toArray ++ c.args.map a.eval = (vs ++ (c.args.map a.eval).toList).toArray := by apply Array.ext'; simp
  rw [← e]
  simp [execOp, hop, resolve, hc, hf, Deferred.ofValue]

theorem evOpsF_ok {P : Program} {call : CallF} {ext : Exts} (hcall : CallOK P call) (hext : ExtOK P ext) {nt : Nat} {ops : Array Oper} {kn : SD} {kx : Nat → SD} {kr : SD} :
    ∀ (l : List Oper) (s : Nat), l = ops.toList.drop s → ∀ {D : List Deferred} {ds : List AV} {E : Env} {regs : Regs} {h : Heap} {nxt : Nat} {a : Act} {w : World}, evOpsF P call ext nt ops l (kx 0) kn ds regs h nxt = true → St D E regs h nxt nt a w → RDL E ds D →
      wpOps P ops (LeavesF E h w nt kn kx kr) (List.range' s l.length) a w
  | [], s, _, D, ds, E, regs, h, nxt, a, w, he, st, rd => ⟨D, ds, E, regs, h, nxt, st, rd, Goes.refl _ _ _, he⟩
  | o :: l, s, hl, D, ds, E, regs, h, nxt, a, w, he, st, rd => by
    have hos : ops[s]? = some o := by
      have := congrArg (fun l => l[0]?) hl
      simpa using this.symm
    have hl' : l = ops.toList.drop (s + 1) := by
      have := congrArg List.tail hl
      simpa using this
    have he : wantK ops o regs h
      (fun h => evOpF P call ext (kxP (kx 0 ds) regs) o.op ds regs h nxt fun ds v h' nxt' => putK o.dst nt v regs fun regs' => evOpsF P call ext nt ops l (kx 0) kn ds regs' h' nxt')
      (fun h => putK o.dst nt .un regs fun regs' => evOpsF P call ext nt ops l (kx 0) kn ds regs' h nxt) = true := he
    obtain ⟨h, hr1, fk, he⟩ := wantK_ok he st.regs st.heap
    refine wpOps_weaken (fun e a w hh => LeavesF.before fk.goes hh) _ _ _ ?_
    have st : St D E regs h nxt nt a w := ⟨st.regs, st.size, st.defers, hr1, JC.goes st.heap st.j fk.goes hr1⟩
    rw [List.length_cons, List.range'_succ, wpOps_cons]
    unfold wpOp
    simp only [hos]
    rcases he with ⟨h1, he⟩ | ⟨h1, he⟩
    · rw [if_pos h1]
      refine .inl ?_
      unfold evOpF at he
      split at he
      · rename_i c hop
        obtain ⟨v, d, hrun, hd, he⟩ := evDefer_ok (P := P) (w := w) he hop st.regs
        unfold Oper.wp
        rw [hrun, Oper.upon_defer]
        have st1 : St (d :: D) E regs h nxt nt { a with defers := d :: a.defers } w := ⟨st.regs, st.size, by rw [st.defers], st.heap, st.j⟩
        obtain ⟨regs', st', hk⟩ := putK_ok he st1 (V := undef) (by rw [Rv])
        exact evOpsF_ok hcall hext l (s + 1) hl' hk st' ⟨d, D, rfl, hd, rd⟩
      · refine Oper.wp_mono ?_ (evOp_ok hcall hext he st.regs st.heap st.j (LeavesF E h w nt kn kx kr) fun V w' g => LeavesF.thrown st rd g)
        rintro a' w' ⟨V, rfl, v, h', nxt', E', rv, hr', g, hk⟩
        obtain ⟨regs', st', hk⟩ := putK_ok hk (st.mono g hr') rv
        exact wpOps_weaken (fun e a w hh => hh.before g) _ _ _ (evOpsF_ok hcall hext l (s + 1) hl' hk st' (rd.mono g.ext))
    · rw [if_neg (by simp [h1])]
      obtain ⟨regs', st', hk⟩ := putK_ok he st (V := undef) (by rw [Rv])
      exact evOpsF_ok hcall hext l (s + 1) hl' hk st' rd

noncomputable def loopF (body : SD → SD) (kn : Nat) : SD :=
  Nat.rec (motive := fun _ => SD) (fun _ _ _ _ => false) (fun _ ih => body ih) kn

noncomputable def onlyF (en : Nat) (s : SD) : SD := Nat.rec (motive := fun _ => SD) s (fun _ _ _ _ _ _ => false) en
theorem onlyF_ok {en : Nat} {s : SD} {ds : List AV} {regs : Regs} {h : Heap} {nxt : Nat} (he : onlyF en s ds regs h nxt = true) : en = 0 ∧ s ds regs h nxt = true := by
  cases en with
  | zero => exact ⟨rfl, he⟩
  | succ n => cases he
noncomputable def bcF (b : Bool) (x y : SD) : SD := Bool.rec (motive := fun _ => SD) y x b
theorem bcF_eq (b : Bool) (x y : SD) (ds : List AV) (regs : Regs) (h : Heap) (nxt : Nat) : bcF b x y ds regs h nxt = bc b (x ds regs h nxt) (y ds regs h nxt) := by cases b <;> rfl
noncomputable def jumpF (c : Code) (go : Nat → (Nat → SD) → SD) (kx : Nat → SD) (n : Nat) : Nat → SD :=
  Nat.rec (motive := fun _ => Nat → SD) (fun i => bcF (bc (Nat.beq (Nat.mod i 2) 1) (hasL c (Nat.div i 2)) false) (fun _ _ _ _ => false) (kx i))
    (fun _ ih i => bcF (bc (Nat.beq (Nat.mod i 2) 1) (hasL c (Nat.div i 2)) false) (go (Nat.succ (Nat.div i 2)) ih) (kx i)) n

noncomputable def evCodeF (P : Program) (call : CallF) (ext : Exts) (draw : DrawF) (lf nt : Nat) (c : Code) : Nat → SD → (Nat → SD) → SD → SD :=
  Code.rec (motive := fun _ => Nat → SD → (Nat → SD) → SD → SD)
    (fun en kn _ _ => onlyF en kn)
    (fun _ ops d en kn kx _ => onlyF en fun ds regs h nxt => bc (ops.toList.any isDefer) (bc d false (evOpsF P call ext nt ops ops.toList (kx 0) kn ds regs h nxt)) (bc d (draw ops nt (kx 0 ds) (kn ds) regs h nxt) (evOps P call ext nt ops ops.toList (kx 0 ds) (kn ds) regs h nxt)))
    (fun a _ iha ihb en kn kx kr => Nat.rec (motive := fun _ => SD) (iha 0 (ihb 0 kn kx kr) kx kr) (fun l _ => bcF (hasL a l) (iha (Nat.succ l) (ihb 0 kn kx kr) kx kr) (ihb (Nat.succ l) kn kx kr)) en)
    (fun x _ _ iht ihe en kn kx kr => onlyF en fun ds regs h nxt => opd regs x fun v => condK v h (fun h => iht 0 kn kx kr ds regs h nxt) (fun h => ihe 0 kn kx kr ds regs h nxt))
    (fun id _ ih en kn kx kr => onlyF en (ih 0 kn (fun i ds regs h nxt => bc (Nat.beq i (Nat.mul 2 (Nat.succ id))) (kn ds regs h nxt) (kx i ds regs h nxt)) kr))
    (fun _ ih en _ kx kr => onlyF en (loopF (fun kn => ih 0 kn kx kr) lf))
    (fun _ _ _ _ _ _ _ _ _ _ _ _ _ _ => false)
    (fun id en _ kx _ => onlyF en (kx (Nat.mul 2 (Nat.succ id))))
    (fun c ih en kn kx kr => onlyF en (ih 0 kn (jumpF c (fun e k => ih e kn k kr) kx lf) kr))
    (fun l en kn _ _ => Nat.rec (motive := fun _ => SD) kn (fun l' _ => bcF (Nat.beq l l') kn (fun _ _ _ _ => false)) en)
    (fun l en _ kx _ => onlyF en (kx (Nat.succ (Nat.mul 2 l))))
    (fun en _ _ kr => onlyF en kr)
    (fun _ _ _ _ _ _ _ _ _ => false) c

theorem evCodeF_ok {P : Program} {call : CallF} {ext : Exts} {draw : DrawF} (hcall : CallOK P call) (hext : ExtOK P ext) (hdraw : DrawOK P draw) {lf nt : Nat} :
    ∀ (c : Code) (en : Nat) (kn : SD) (kx : Nat → SD) (kr : SD) (D : List Deferred) (ds : List AV) (E : Env) (regs : Regs) (h : Heap) (nxt : Nat) (a : Act) (w : World), evCodeF P call ext draw lf nt c en kn kx kr ds regs h nxt = true → St D E regs h nxt nt a w → RDL E ds D →
      ∀ c', entryOf c en = some c' → c'.wp P (LeavesF E h w nt kn kx kr) a w := by
  intro c
  induction c with
  | skip =>
    intro en kn kx kr D ds E regs h nxt a w he st rd c' hc
    obtain ⟨rfl, he⟩ := onlyF_ok he
    cases hc
    exact wp_skip ⟨D, ds, E, regs, h, nxt, st, rd, Goes.refl _ _ _, he⟩
  | region id ops d =>
    intro en kn kx kr D ds E regs h nxt a w he st rd c' hc
    obtain ⟨rfl, he⟩ := onlyF_ok he
    cases hc
    have he : bc (ops.toList.any isDefer) (bc d false (evOpsF P call ext nt ops ops.toList (kx 0) kn ds regs h nxt)) (bc d (draw ops nt (kx 0 ds) (kn ds) regs h nxt) (evOps P call ext nt ops ops.toList (kx 0 ds) (kn ds) regs h nxt)) = true := he
    rcases bc_or he with ⟨_, he⟩ | ⟨_, he⟩
    · rcases bc_or he with ⟨_, he⟩ | ⟨rfl, he⟩
      · cases he
      · refine wp_region ?_
        have := evOpsF_ok hcall hext (kx := kx) (kr := kr) ops.toList 0 (by simp) he st rd
        rwa [← List.range_eq_range', Array.length_toList] at this
    · have key : (Code.region id ops d).wp P (Leaves D E h w nt (kn ds) (fun i => kx i ds) (kr ds)) a w := by
        rcases bc_or he with ⟨rfl, he⟩ | ⟨rfl, he⟩
        · exact hdraw D id ops nt (kn ds) (fun i => kx i ds) (kr ds) E regs h nxt a w he st
        · refine wp_region ?_
          have := evOps_ok hcall hext (kx := fun i => kx i ds) (kr := kr ds) ops.toList 0 (by simp) he st
          rwa [← List.range_eq_range', Array.length_toList] at this
      refine wp_mono key ?_
      rintro e a' w' ⟨E', regs', h', nxt', st', g, hk⟩
      cases e with
      | panic l => exact ⟨D, ds, E', regs', h', nxt', st', rd.mono g.ext, g, hk.2⟩
      | outgrown => exact hk.elim
      | _ => exact ⟨D, ds, E', regs', h', nxt', st', rd.mono g.ext, g, hk⟩
  | seq x y ihx ihy =>
    intro en kn kx kr D ds E regs h nxt a w he st rd c' hc
    have both : ∀ {e1 : Nat} {x' : Code}, entryOf x e1 = some x' → evCodeF P call ext draw lf nt x e1 (evCodeF P call ext draw lf nt y 0 kn kx kr) kx kr ds regs h nxt = true → (Code.seq x' y).wp P (LeavesF E h w nt kn kx kr) a w := by
      intro e1 x' hx he
      refine wp_seq (wp_mono (ihx e1 (evCodeF P call ext draw lf nt y 0 kn kx kr) kx kr D ds E regs h nxt a w he st rd x' hx) ?_)
      intro e a' w' hl
      cases e with
      | normal =>
        obtain ⟨D', ds', E', regs', h', nxt', st', rd', g, hk⟩ := hl
        exact wp_mono (ihy 0 kn kx kr D' ds' E' regs' h' nxt' a' w' hk st' rd' y rfl) fun e a2 w2 h2 => h2.before g
      | _ => exact hl
    cases en with
    | zero =>
      cases hc
      exact both (e1 := 0) rfl he
    | succ l =>
      have he : bcF (hasL x l) (evCodeF P call ext draw lf nt x (l + 1) (evCodeF P call ext draw lf nt y 0 kn kx kr) kx kr) (evCodeF P call ext draw lf nt y (l + 1) kn kx kr) ds regs h nxt = true := he
      have hc : findLabel (.seq x y) l = some c' := hc
      rw [bcF_eq] at he
      unfold findLabel at hc
      rcases bc_or he with ⟨hl, he⟩ | ⟨hl, he⟩
      · unfold hasL at hl
        cases hf : findLabel x l with
        | none => rw [hf] at hl; cases hl
        | some x' =>
          rw [hf] at hc
          cases hc
          exact both (e1 := l + 1) hf he
      · unfold hasL at hl
        cases hf : findLabel x l with
        | some x' => rw [hf] at hl; cases hl
        | none =>
          rw [hf] at hc
          exact ihy (l + 1) kn kx kr D ds E regs h nxt a w he st rd c' hc
  | cond x t e iht ihe =>
    intro en kn kx kr D ds E regs h nxt a w he st rd c' hc
    obtain ⟨rfl, he⟩ := onlyF_ok he
    cases hc
    have he : opd regs x (fun v => condK v h (fun h => evCodeF P call ext draw lf nt t 0 kn kx kr ds regs h nxt) (fun h => evCodeF P call ext draw lf nt e 0 kn kx kr ds regs h nxt)) = true := he
    obtain ⟨v, rv, he⟩ := opd_ok he st.regs
    obtain ⟨b, h1, hv, hr1, fk, he⟩ := condK_ok he rv st.heap
    refine wp_mono (wp_cond (Q := LeavesF E h1 w nt kn kx kr) hv ?_) fun e a w hh => LeavesF.before fk.goes hh
    rcases he with ⟨rfl, he⟩ | ⟨rfl, he⟩
    · exact iht 0 kn kx kr D ds E regs h1 nxt a w he ⟨st.regs, st.size, st.defers, hr1, JC.goes st.heap st.j fk.goes hr1⟩ rd t rfl
    · exact ihe 0 kn kx kr D ds E regs h1 nxt a w he ⟨st.regs, st.size, st.defers, hr1, JC.goes st.heap st.j fk.goes hr1⟩ rd e rfl
  | block id c ih =>
    intro en kn kx kr D ds E regs h nxt a w he st rd c' hc
    obtain ⟨rfl, he⟩ := onlyF_ok he
    cases hc
    refine wp_block (wp_mono (ih 0 kn (fun i ds regs h nxt => bc (Nat.beq i (Nat.mul 2 (Nat.succ id))) (kn ds regs h nxt) (kx i ds regs h nxt)) kr D ds E regs h nxt a w he st rd c rfl) ?_)
    intro e a' w' hl
    cases e with
    | exit i =>
      obtain ⟨D', ds', E', regs', h', nxt', st', rd', g, hk⟩ := hl
      simp only [Exit.inBlock]
      rcases bc_or hk with ⟨hi, hk⟩ | ⟨hi, hk⟩
      · have hi : 2 * (i + 1) = 2 * (id + 1) := Nat.eq_of_beq_eq_true hi
        rw [if_pos (by omega)]
        exact ⟨D', ds', E', regs', h', nxt', st', rd', g, hk⟩
      · have hi : 2 * (i + 1) ≠ 2 * (id + 1) := Nat.ne_of_beq_eq_false hi
        rw [if_neg (by omega)]
        exact ⟨D', ds', E', regs', h', nxt', st', rd', g, hk⟩
    | goto l =>
      obtain ⟨D', ds', E', regs', h', nxt', st', rd', g, hk⟩ := hl
      rcases bc_or hk with ⟨hi, hk⟩ | ⟨hi, hk⟩
      · have hi : 2 * l + 1 = 2 * (id + 1) := Nat.eq_of_beq_eq_true hi
        omega
      · exact ⟨D', ds', E', regs', h', nxt', st', rd', g, hk⟩
    | panic ch =>
      obtain ⟨D', ds', E', regs', h', nxt', st', rd', g, V, v, hc, rv, hk⟩ := hl
      rcases bc_or hk with ⟨hi, hk⟩ | ⟨hi, hk⟩
      · have hi : 0 = 2 * (id + 1) := Nat.eq_of_beq_eq_true hi
        omega
      · exact ⟨D', ds', E', regs', h', nxt', st', rd', g, V, v, hc, rv, hk⟩
    | _ => exact hl
  | loop c ih =>
    intro en kn kx kr D ds E regs h nxt a w he st rd c' hc
    obtain ⟨rfl, he⟩ := onlyF_ok he
    cases hc
    have he : loopF (fun kn => evCodeF P call ext draw lf nt c 0 kn kx kr) lf ds regs h nxt = true := he
    refine wp_loop_rounds lf ?_
    have key : ∀ (n : Nat) (D1 : List Deferred) (ds1 : List AV) (E1 : Env) (regs : Regs) (h1 : Heap) (nxt : Nat) (a : Act) (w1 : World), Goes E h w E1 h1 w1 → loopF (fun kn => evCodeF P call ext draw lf nt c 0 kn kx kr) n ds1 regs h1 nxt = true → St D1 E1 regs h1 nxt nt a w1 → RDL E1 ds1 D1 →
        Code.rounds P c (LeavesF E h w nt kn kx kr) n a w1 := by
      intro n
      induction n with
      | zero => intro D1 ds1 E1 regs h1 nxt a w1 _ he _ _; cases he
      | succ n ihn =>
        intro D1 ds1 E1 regs h1 nxt a w1 g he st rd
        rw [rounds_succ]
        refine wp_mono (ih 0 (loopF (fun kn => evCodeF P call ext draw lf nt c 0 kn kx kr) n) kx kr D1 ds1 E1 regs h1 nxt a w1 he st rd c rfl) ?_
        intro e a' w' hl
        cases e with
        | normal =>
          obtain ⟨D', ds', E', regs', h', nxt', st', rd', g', hk⟩ := hl
          exact ihn D' ds' E' regs' h' nxt' a' w' (g.trans g') hk st' rd'
        | exit i => exact LeavesF.before g hl
        | ret => exact LeavesF.before g hl
        | goto l => exact LeavesF.before g hl
        | panic l => exact LeavesF.before g hl
        | outgrown => obtain ⟨_, _, _, _, _, _, _, _, _, hk⟩ := hl; exact hk.elim
    exact key lf D ds E regs h nxt a w (Goes.refl _ _ _) he st rd
  | exit id =>
    intro en kn kx kr D ds E regs h nxt a w he st rd c' hc
    obtain ⟨rfl, he⟩ := onlyF_ok he
    cases hc
    exact wp_exit ⟨D, ds, E, regs, h, nxt, st, rd, Goes.refl _ _ _, he⟩
  | scope c ih =>
    intro en kn kx kr D ds E regs h nxt a w he st rd c' hc
    obtain ⟨rfl, he⟩ := onlyF_ok he
    cases hc
    have key : ∀ (n : Nat) (en : Nat) (D1 : List Deferred) (ds1 : List AV) (E1 : Env) (regs : Regs) (h1 : Heap) (nxt : Nat) (a : Act) (w1 : World) (c1 : Code), Goes E h w E1 h1 w1 →
        evCodeF P call ext draw lf nt c en kn (jumpF c (fun e k => evCodeF P call ext draw lf nt c e kn k kr) kx n) kr ds1 regs h1 nxt = true → St D1 E1 regs h1 nxt nt a w1 → RDL E1 ds1 D1 → entryOf c en = some c1 →
        c1.wp P (scopeQ P c (LeavesF E h w nt kn kx kr) n) a w1 := by
      intro n
      induction n with
      | zero =>
        intro en D1 ds1 E1 regs h1 nxt a w1 c1 g he st rd hc
        refine wp_mono (ih en kn _ kr D1 ds1 E1 regs h1 nxt a w1 he st rd c1 hc) ?_
        intro e a' w' hl
        cases e with
        | normal => exact LeavesF.before g hl
        | exit i =>
          obtain ⟨D', ds', E', regs', h', nxt', st', rd', g', hk⟩ := hl
          have hk : bcF (bc (Nat.beq (Nat.mod (Nat.mul 2 (Nat.succ i)) 2) 1) (hasL c (Nat.div (Nat.mul 2 (Nat.succ i)) 2)) false) (fun _ _ _ _ => false) (kx (Nat.mul 2 (Nat.succ i))) ds' regs' h' nxt' = true := hk
          rw [show Nat.mod (Nat.mul 2 (Nat.succ i)) 2 = 0 from Nat.mul_mod_right 2 (i + 1)] at hk
          exact ⟨D', ds', E', regs', h', nxt', st', rd', g.trans g', hk⟩
        | goto l =>
          obtain ⟨D', ds', E', regs', h', nxt', st', rd', g', hk⟩ := hl
          have hk : bcF (bc (Nat.beq (Nat.mod (Nat.succ (Nat.mul 2 l)) 2) 1) (hasL c (Nat.div (Nat.succ (Nat.mul 2 l)) 2)) false) (fun _ _ _ _ => false) (kx (Nat.succ (Nat.mul 2 l))) ds' regs' h' nxt' = true := hk
          rw [show Nat.mod (Nat.succ (Nat.mul 2 l)) 2 = 1 from (by show (2 * l + 1) % 2 = 1; omega), show Nat.div (Nat.succ (Nat.mul 2 l)) 2 = l from (by show (2 * l + 1) / 2 = l; omega)] at hk
          have hk : bcF (hasL c l) (fun _ _ _ _ => false) (kx (Nat.succ (Nat.mul 2 l))) ds' regs' h' nxt' = true := hk
          rw [bcF_eq] at hk
          rcases bc_or hk with ⟨_, hk⟩ | ⟨hl, hk⟩
          · cases hk
          · refine ⟨?_, D', ds', E', regs', h', nxt', st', rd', g.trans g', hk⟩
            unfold hasL at hl
            cases hf : findLabel c l with
            | none => rfl
            | some _ => rw [hf] at hl; cases hl
        | ret => exact LeavesF.before g hl
        | panic l =>
          obtain ⟨D', ds', E', regs', h', nxt', st', rd', g', V, v, hc, rv, hk⟩ := hl
          exact ⟨D', ds', E', regs', h', nxt', st', rd', g.trans g', V, v, hc, rv, hk⟩
        | outgrown => obtain ⟨_, _, _, _, _, _, _, _, _, hk⟩ := hl; exact hk.elim
      | succ n ihn =>
        intro en D1 ds1 E1 regs h1 nxt a w1 c1 g he st rd hc
        refine wp_mono (ih en kn _ kr D1 ds1 E1 regs h1 nxt a w1 he st rd c1 hc) ?_
        intro e a' w' hl
        cases e with
        | normal => exact LeavesF.before g hl
        | exit i =>
          obtain ⟨D', ds', E', regs', h', nxt', st', rd', g', hk⟩ := hl
          have hk : bcF (bc (Nat.beq (Nat.mod (Nat.mul 2 (Nat.succ i)) 2) 1) (hasL c (Nat.div (Nat.mul 2 (Nat.succ i)) 2)) false) (evCodeF P call ext draw lf nt c (Nat.succ (Nat.div (Nat.mul 2 (Nat.succ i)) 2)) kn (jumpF c (fun e k => evCodeF P call ext draw lf nt c e kn k kr) kx n) kr) (kx (Nat.mul 2 (Nat.succ i))) ds' regs' h' nxt' = true := hk
          rw [show Nat.mod (Nat.mul 2 (Nat.succ i)) 2 = 0 from Nat.mul_mod_right 2 (i + 1)] at hk
          exact ⟨D', ds', E', regs', h', nxt', st', rd', g.trans g', hk⟩
        | goto l =>
          obtain ⟨D', ds', E', regs', h', nxt', st', rd', g', hk⟩ := hl
          have hk : bcF (bc (Nat.beq (Nat.mod (Nat.succ (Nat.mul 2 l)) 2) 1) (hasL c (Nat.div (Nat.succ (Nat.mul 2 l)) 2)) false) (evCodeF P call ext draw lf nt c (Nat.succ (Nat.div (Nat.succ (Nat.mul 2 l)) 2)) kn (jumpF c (fun e k => evCodeF P call ext draw lf nt c e kn k kr) kx n) kr) (kx (Nat.succ (Nat.mul 2 l))) ds' regs' h' nxt' = true := hk
          rw [show Nat.mod (Nat.succ (Nat.mul 2 l)) 2 = 1 from (by show (2 * l + 1) % 2 = 1; omega), show Nat.div (Nat.succ (Nat.mul 2 l)) 2 = l from (by show (2 * l + 1) / 2 = l; omega)] at hk
          have hk : bcF (hasL c l) (evCodeF P call ext draw lf nt c (l + 1) kn (jumpF c (fun e k => evCodeF P call ext draw lf nt c e kn k kr) kx n) kr) (kx (Nat.succ (Nat.mul 2 l))) ds' regs' h' nxt' = true := hk
          rw [bcF_eq] at hk
          rcases bc_or hk with ⟨hl, hk⟩ | ⟨hl, hk⟩
          · unfold hasL at hl
            cases hf : findLabel c l with
            | none => rw [hf] at hl; cases hl
            | some rest => exact .inr ⟨rest, hf, ihn (l + 1) D' ds' E' regs' h' nxt' a' w' rest (g.trans g') hk st' rd' hf⟩
          · refine .inl ⟨?_, D', ds', E', regs', h', nxt', st', rd', g.trans g', hk⟩
            unfold hasL at hl
            cases hf : findLabel c l with
            | none => rfl
            | some _ => rw [hf] at hl; cases hl
        | ret => exact LeavesF.before g hl
        | panic l =>
          obtain ⟨D', ds', E', regs', h', nxt', st', rd', g', V, v, hc, rv, hk⟩ := hl
          exact ⟨D', ds', E', regs', h', nxt', st', rd', g.trans g', V, v, hc, rv, hk⟩
        | outgrown => obtain ⟨_, _, _, _, _, _, _, _, _, hk⟩ := hl; exact hk.elim
    exact wp_scope_fuel lf (key lf 0 D ds E regs h nxt a w c (Goes.refl _ _ _) he st rd rfl)
  | label l =>
    intro en kn kx kr D ds E regs h nxt a w he st rd c' hc
    cases en with
    | zero => cases hc; exact wp_label ⟨D, ds, E, regs, h, nxt, st, rd, Goes.refl _ _ _, he⟩
    | succ l' =>
      have he : bcF (Nat.beq l l') kn (fun _ _ _ _ => false) ds regs h nxt = true := he
      rw [bcF_eq] at he
      have hc : findLabel (.label l) l' = some c' := hc
      rcases bc_or he with ⟨_, he⟩ | ⟨_, he⟩
      · unfold findLabel at hc
        split at hc
        · cases hc; exact wp_skip ⟨D, ds, E, regs, h, nxt, st, rd, Goes.refl _ _ _, he⟩
        · cases hc
      · cases he
  | goto l =>
    intro en kn kx kr D ds E regs h nxt a w he st rd c' hc
    obtain ⟨rfl, he⟩ := onlyF_ok he
    cases hc
    exact wp_goto ⟨D, ds, E, regs, h, nxt, st, rd, Goes.refl _ _ _, he⟩
  | ret =>
    intro en kn kx kr D ds E regs h nxt a w he st rd c' hc
    obtain ⟨rfl, he⟩ := onlyF_ok he
    cases hc
    exact wp_ret ⟨D, ds, E, regs, h, nxt, st, rd, Goes.refl _ _ _, he⟩
  | _ => intro en kn kx kr D ds E regs h nxt a w he; cases he

/-! ### Deferred calls, where nothing panics -/
section
variable {P : Program} {Q Q' : Exit → Act → List Frame → World → Prop} {a : Act} {cs : List Frame} {w : World}
theorem wpS_weaken {c : Code} (hq : ∀ e a cs w, Q e a cs w → Q' e a cs w) (h : c.wpS P Q a cs w) : c.wpS P Q' a cs w :=
  fun b k hb hr => let ⟨e, a', cs', w', q, r⟩ := h b k hb hr; ⟨e, a', cs', w', hq _ _ _ _ q, r⟩

def inBlockS (id : Nat) (Q : Exit → Act → List Frame → World → Prop) : Exit → Act → List Frame → World → Prop
  | .exit id', a, cs, w => if id' = id then Q .normal a cs w else Q (.exit id') a cs w
  | e, a, cs, w => Q e a cs w

theorem wpS_block {id : Nat} {c : Code} (h : c.wpS P (inBlockS id Q) a cs w) : (Code.block id c).wpS P Q a cs w := by
  intro b k hb hr
  obtain ⟨e, a₁, cs₁, w₁, hq, harr⟩ := h b (.inBlock id :: k) hb hr
  cases e with
  | normal => exact ⟨.normal, a₁, cs₁, w₁, hq, .head step_block (Steps.trans harr (.one step_inBlock))⟩
  | exit id' =>
    by_cases hid : id' = id
    · simp only [inBlockS, hid, if_true] at hq
      exact ⟨.normal, a₁, cs₁, w₁, hq, .head step_block (harr k (by simp [exitTo, hid]))⟩
    · simp only [inBlockS, hid, if_false] at hq
      refine ⟨.exit id', a₁, cs₁, w₁, hq, fun k' hk => .head step_block (harr k' ?_)⟩
      have : (id == id') = false := by simp; exact fun h => hid h.symm
      simp [exitTo, this, hk]
  | goto l => exact ⟨_, a₁, cs₁, w₁, hq, fun k' hk => .head step_block (harr k' (by simp [gotoIn, hk]))⟩
  | ret => exact ⟨_, a₁, cs₁, w₁, hq, .of_steps (.one step_block) harr⟩
  | panic ch => exact ⟨_, a₁, cs₁, w₁, hq, .of_steps (.one step_block) harr⟩
  | outgrown => exact ⟨_, a₁, cs₁, w₁, hq, .of_steps (b := b) (k := k) (cs := cs₁) (e := .outgrown) (.one step_block) harr⟩

theorem wpOpsS_weaken {ops : Array Oper} (hq : ∀ e a cs w, Q e a cs w → Q' e a cs w) : ∀ (l : List Nat) (a : Act) (cs : List Frame) (w : World), wpOpsS P ops Q l a cs w → wpOpsS P ops Q' l a cs w := by
  intro l
  induction l with
  | nil => intro a cs w hh; exact hq _ _ _ _ hh
  | cons i l ih =>
    intro a cs w hh
    simp only [wpOpsS] at hh ⊢
    split
    · rename_i hn; simp only [hn] at hh; exact ih _ _ _ hh
    · rename_i o' ho'
      simp only [ho'] at hh
      split
      · rename_i hw'
        simp only [hw', if_true] at hh
        generalize (execOp a.eval o').run P w = r at hh ⊢
        have up : ∀ r, o'.upon P a (fun a' w' => wpOpsS P ops Q l a' cs w') (fun e a' w' => Q e a' cs w') r → o'.upon P a (fun a' w' => wpOpsS P ops Q' l a' cs w') (fun e a' w' => Q' e a' cs w') r := by
          intro r h3
          cases r with
          | ok n w4 =>
            cases n <;> simp only [Oper.upon] at h3 ⊢ <;> first
              | exact ih _ _ _ h3
              | exact h3
              | (refine Calls.mono h3 ?_
                 intro e w5 he5
                 cases e with
                 | returned v => exact ih _ _ _ he5
                 | panicked c => exact hq _ _ _ _ he5
                 | outgrown => obtain ⟨a6, w6, h6⟩ := he5; exact ⟨a6, w6, hq _ _ _ _ h6⟩)
              | (intro fr cs5
                 obtain ⟨v, w5, h5, h6⟩ := h3 fr cs5
                 exact ⟨v, w5, ih _ _ _ h5, h6⟩)
          | halt x w4 => cases x <;> simp only [Oper.upon] at h3 ⊢ <;> first | exact hq _ _ _ _ h3 | exact h3
        split at hh
        · rename_i w'
          split at hh
          · rename_i hr; exact ih _ _ _ hh
          · rename_i hr; exact ih _ _ _ hh
        · rename_i r' hne
          exact up _ hh
      · rename_i hw'
        simp only [hw'] at hh
        exact ih _ _ _ hh
end

/-! #### what a deferred call finds: `.no`, no panic; `.un`, one that was recovered; `.pk v`, one that carries v -/
def Md (E : Env) : AV → FrameMode → Prop
  | .no, u => u = .returning
  | .un, u => ∃ V, u = .panicking [{ v := V, recovered := true }]
  | .pk v, u => ∃ V, u = .panicking [{ v := V, recovered := false }] ∧ Rv E v V
  | _, _ => False
theorem Md.mono {E E' : Env} (h : E.le E') {m : AV} {u : FrameMode} (hm : Md E m u) : Md E' m u := by
  unfold Md at *
  split at hm
  · exact hm
  · exact hm
  · obtain ⟨V, e, r⟩ := hm; exact ⟨V, e, r.mono h⟩
  · exact hm.elim
theorem Md.run {E : Env} {m : AV} {u : FrameMode} (hm : Md E m u) : u ≠ .run := by
  unfold Md at hm
  split at hm
  · rw [hm]; simp
  · obtain ⟨V, e⟩ := hm; rw [e]; simp
  · obtain ⟨V, e, _⟩ := hm; rw [e]; simp
  · exact hm.elim

abbrev SM := AV → S
noncomputable def recK (m : AV) (k : AV → AV → Bool) : Bool := match m with
  | .no => k .inil .no
  | .un => k .inil .un
  | .pk v => force v fun v => k v .un
  | _ => false

noncomputable def evOpsD (P : Program) (call : CallF) (ext : Exts) (nt : Nat) (ops : Array Oper) (l : List Oper) (kq : SM) : SM → SM :=
  List.rec (motive := fun _ => SM → SM) (fun kn => kn)
    (fun o _ ih kn m regs h nxt => wantK ops o regs h
      (fun h => bc (isRec o) (recK m fun v m' => putK o.dst nt v regs fun regs' => ih kn m' regs' h nxt) (evOp P call ext (kxP (kq m) regs) o.op regs h nxt fun v h' nxt' => putK o.dst nt v regs fun regs' => ih kn m regs' h' nxt'))
      (fun h => putK o.dst nt .un regs fun regs' => ih kn m regs' h nxt)) l

/-- what deferred code leaves; of the callers, only the first one's mode changes -/
def LeavesM (c₀ : Frame) (cs : List Frame) (D : List Deferred) (E : Env) (h : Heap) (w : World) (nt : Nat) (kn : SM) (kx : Nat → SM) (kr : SM) : Exit → Act → List Frame → World → Prop := fun e a' cs' w' =>
  ∃ m u, cs' = { c₀ with mode := u } :: cs ∧ ∃ E' regs' h' nxt', Md E' m u ∧ St D E' regs' h' nxt' nt a' w' ∧ Goes E h w E' h' w' ∧ (match e with
    | .normal => kn m regs' h' nxt' = true
    | .exit i => kx (Nat.mul 2 (Nat.succ i)) m regs' h' nxt' = true
    | .goto l => kx (Nat.succ (Nat.mul 2 l)) m regs' h' nxt' = true
    | .ret => kr m regs' h' nxt' = true
    | .panic c => ∃ V v, c = [{ v := V, recovered := false }] ∧ Rv E' v V ∧ kx 0 m (.node v regs' .nil) h' nxt' = true
    | _ => False)
theorem LeavesM.before {c₀ : Frame} {cs : List Frame} {E E1 : Env} {h h1 : Heap} {w w1 : World} {nt : Nat} {kn : SM} {kx : Nat → SM} {kr : SM} {e : Exit} {a' : Act} {cs' : List Frame} {w' : World} (g : Goes E h w E1 h1 w1)
    (l : LeavesM c₀ cs D E1 h1 w1 nt kn kx kr e a' cs' w') : LeavesM c₀ cs D E h w nt kn kx kr e a' cs' w' := by
  obtain ⟨m, u, hc, E', regs', h', nxt', hm, s, g', r⟩ := l
  exact ⟨m, u, hc, E', regs', h', nxt', hm, s, g.trans g', r⟩
theorem LeavesM.of {c₀ : Frame} {cs : List Frame} {E : Env} {h : Heap} {w : World} {nt : Nat} {m : AV} {u : FrameMode} {kn : SM} {kx : Nat → SM} {kr : SM} {e : Exit} {a' : Act} {w' : World} (hm : Md E m u)
    (l : Leaves D E h w nt (kn m) (fun i => kx i m) (kr m) e a' w') : LeavesM c₀ cs D E h w nt kn kx kr e a' ({ c₀ with mode := u } :: cs) w' := by
  obtain ⟨E', regs', h', nxt', s, g', r⟩ := l
  refine ⟨m, u, rfl, E', regs', h', nxt', hm.mono g'.ext, s, g', ?_⟩
  cases e <;> first | exact r | exact r.2

theorem isRec_run {P : Program} {o : Oper} (h : isRec o = true) (ρ : Operand → Value) (w : World) : (execOp ρ o).run P w = .ok .recover w := by
  unfold isRec at h
  split at h <;> try (cases h; done)
  rename_i c hop
  split at h <;> try (cases h; done)
  rename_i hc
  have e : execOp ρ o = builtin .recover c.argTypes o.type (c.args.map fun | .const _ => true | _ => false) (c.args.map ρ) := by
    simp only [execOp, hop, resolve, hc]
    rfl
  rw [e]; rfl

theorem evOpsD_ok {P : Program} {call : CallF} {ext : Exts} (hcall : CallOK P call) (hext : ExtOK P ext) {nt : Nat} {ops : Array Oper} {kn : SM} {kx : Nat → SM} {kr : SM} {c₀ : Frame} {cs : List Frame} :
    ∀ (l : List Oper) (s : Nat), l = ops.toList.drop s → ∀ {m : AV} {u : FrameMode} {E : Env} {regs : Regs} {h : Heap} {nxt : Nat} {a : Act} {w : World}, evOpsD P call ext nt ops l (kx 0) kn m regs h nxt = true → Md E m u → St D E regs h nxt nt a w →
      wpOpsS P ops (LeavesM c₀ cs D E h w nt kn kx kr) (List.range' s l.length) a ({ c₀ with mode := u } :: cs) w
  | [], s, _, m, u, E, regs, h, nxt, a, w, he, hm, st => ⟨m, u, rfl, E, regs, h, nxt, hm, st, Goes.refl _ _ _, he⟩
  | o :: l, s, hl, m, u, E, regs, h, nxt, a, w, he, hm, st => by
    have hos : ops[s]? = some o := by
      have := congrArg (fun l => l[0]?) hl
      simpa using this.symm
    have hl' : l = ops.toList.drop (s + 1) := by
      have := congrArg List.tail hl
      simpa using this
    have he : wantK ops o regs h
      (fun h => bc (isRec o) (recK m fun v m' => putK o.dst nt v regs fun regs' => evOpsD P call ext nt ops l (kx 0) kn m' regs' h nxt) (evOp P call ext (kxP (kx 0 m) regs) o.op regs h nxt fun v h' nxt' => putK o.dst nt v regs fun regs' => evOpsD P call ext nt ops l (kx 0) kn m regs' h' nxt'))
      (fun h => putK o.dst nt .un regs fun regs' => evOpsD P call ext nt ops l (kx 0) kn m regs' h nxt) = true := he
    obtain ⟨h, hr1, fk, he⟩ := wantK_ok he st.regs st.heap
    refine wpOpsS_weaken (fun e a cs w hh => LeavesM.before fk.goes hh) _ _ _ _ ?_
    have st : St D E regs h nxt nt a w := ⟨st.regs, st.size, st.defers, hr1, JC.goes st.heap st.j fk.goes hr1⟩
    rw [List.length_cons, List.range'_succ]
    simp only [wpOpsS, hos]
    rcases he with ⟨h1, he⟩ | ⟨h1, he⟩
    · rw [if_pos h1]
      rcases bc_or he with ⟨hrec, he⟩ | ⟨_, he⟩
      · rw [isRec_run hrec]
        unfold recK at he
        unfold Md at hm
        split at he <;> try (cases he; done)
        · subst hm
          simp only [recoverD]
          obtain ⟨regs', st', hk⟩ := putK_ok he st (V := .nilIface) (by rw [Rv])
          exact evOpsD_ok hcall hext l (s + 1) hl' hk (show Md E .no .returning from rfl) st'
        · obtain ⟨V, rfl⟩ := hm
          simp only [recoverD]
          obtain ⟨regs', st', hk⟩ := putK_ok he st (V := .nilIface) (by rw [Rv])
          exact evOpsD_ok hcall hext l (s + 1) hl' hk (show Md E .un _ from ⟨V, rfl⟩) st'
        · rename_i v
          obtain ⟨V, rfl, rv⟩ := hm
          simp only [recoverD]
          rw [force_eq] at he
          obtain ⟨regs', st', hk⟩ := putK_ok he st rv
          exact evOpsD_ok hcall hext l (s + 1) hl' hk (show Md E .un _ from ⟨V, rfl⟩) st'
      · have hop := Oper.wp_mono (K' := fun a' w' => wpOpsS P ops (LeavesM c₀ cs D E h w nt kn kx kr) (List.range' (s + 1) l.length) a' ({ c₀ with mode := u } :: cs) w') (by
            rintro a' w' ⟨V, rfl, v, h', nxt', E', rv, hr', g, hk⟩
            obtain ⟨regs', st', hk⟩ := putK_ok hk (st.mono g hr') rv
            exact wpOpsS_weaken (fun e a cs' w hh => hh.before g) _ _ _ _ (evOpsD_ok hcall hext l (s + 1) hl' hk (hm.mono g.ext) st'))
          (evOp_ok hcall hext he st.regs st.heap st.j (fun e a' w' => LeavesM c₀ cs D E h w nt kn kx kr e a' ({ c₀ with mode := u } :: cs) w') fun V w' g => LeavesM.of hm (Leaves.thrown (kn := kn m) (kx := fun i => kx i m) (kr := kr m) st g))
        unfold Oper.wp at hop
        generalize (execOp a.eval o).run P w = r at hop ⊢
        split
        · exact hop.elim
        · exact hop
    · rw [if_neg (by simp [h1])]
      obtain ⟨regs', st', hk⟩ := putK_ok he st (V := undef) (by rw [Rv])
      exact evOpsD_ok hcall hext l (s + 1) hl' hk hm st'

noncomputable def evCodeD (P : Program) (call : CallF) (ext : Exts) (draw : DrawF) (lf nt : Nat) (c : Code) : SM → (Nat → SM) → SM → SM :=
  Code.rec (motive := fun _ => SM → (Nat → SM) → SM → SM)
    (fun kn _ _ => kn)
    (fun _ ops d kn kx _ m regs h nxt => bc (ops.toList.any isRec) (bc d false (evOpsD P call ext nt ops ops.toList (kx 0) kn m regs h nxt)) (bc d (draw ops nt (kx 0 m) (kn m) regs h nxt) (evOps P call ext nt ops ops.toList (kx 0 m) (kn m) regs h nxt)))
    (fun _ _ iha ihb kn kx kr => iha (ihb kn kx kr) kx kr)
    (fun x _ _ iht ihe kn kx kr m regs h nxt => opd regs x fun v => condK v h (fun h => iht kn kx kr m regs h nxt) (fun h => ihe kn kx kr m regs h nxt))
    (fun id _ ih kn kx kr => ih kn (fun i m regs h nxt => bc (Nat.beq i (Nat.mul 2 (Nat.succ id))) (kn m regs h nxt) (kx i m regs h nxt)) kr)
    (fun c _ kn kx kr m => evCode P call ext draw lf nt (.loop c) 0 (kn m) (fun i => kx i m) (kr m))
    (fun _ _ _ _ _ _ _ _ _ _ _ _ _ => false)
    (fun id _ kx _ => kx (Nat.mul 2 (Nat.succ id)))
    (fun c _ kn kx kr m => evCode P call ext draw lf nt (.scope c) 0 (kn m) (fun i => kx i m) (kr m))
    (fun _ kn _ _ => kn)
    (fun _ _ _ _ _ _ _ _ => false)
    (fun _ _ kr => kr)
    (fun _ _ _ _ _ _ _ _ => false) c

theorem evCodeD_ok {P : Program} {call : CallF} {ext : Exts} {draw : DrawF} (hcall : CallOK P call) (hext : ExtOK P ext) (hdraw : DrawOK P draw) {lf nt : Nat} {c₀ : Frame} {cs : List Frame} :
    ∀ (c : Code) (kn : SM) (kx : Nat → SM) (kr : SM) (m : AV) (u : FrameMode) (E : Env) (regs : Regs) (h : Heap) (nxt : Nat) (a : Act) (w : World), evCodeD P call ext draw lf nt c kn kx kr m regs h nxt = true → Md E m u → St D E regs h nxt nt a w →
      c.wpS P (LeavesM c₀ cs D E h w nt kn kx kr) a ({ c₀ with mode := u } :: cs) w := by
  have lift : ∀ {c : Code} {kn : SM} {kx : Nat → SM} {kr : SM} {m : AV} {u : FrameMode} {E : Env} {h : Heap} {a : Act} {w : World}, Md E m u → c.wp P (Leaves D E h w nt (kn m) (fun i => kx i m) (kr m)) a w →
      c.wpS P (LeavesM c₀ cs D E h w nt kn kx kr) a ({ c₀ with mode := u } :: cs) w := fun hm h => wpS_of_wp (wp_mono h fun e a w hh => LeavesM.of hm hh)
  intro c
  induction c with
  | skip => intro kn kx kr m u E regs h nxt a w he hm st; exact lift hm (wp_skip ⟨E, regs, h, nxt, st, Goes.refl _ _ _, he⟩)
  | region id ops d =>
    intro kn kx kr m u E regs h nxt a w he hm st
    have he : bc (ops.toList.any isRec) (bc d false (evOpsD P call ext nt ops ops.toList (kx 0) kn m regs h nxt)) (bc d (draw ops nt (kx 0 m) (kn m) regs h nxt) (evOps P call ext nt ops ops.toList (kx 0 m) (kn m) regs h nxt)) = true := he
    rcases bc_or he with ⟨_, he⟩ | ⟨_, he⟩
    · rcases bc_or he with ⟨_, he⟩ | ⟨rfl, he⟩
      · cases he
      · refine wpS_region ?_
        have := evOpsD_ok hcall hext (kx := kx) (kr := kr) (c₀ := c₀) (cs := cs) ops.toList 0 (by simp) he hm st
        rwa [← List.range_eq_range', Array.length_toList] at this
    · rcases bc_or he with ⟨rfl, he⟩ | ⟨rfl, he⟩
      · exact lift hm (hdraw D id ops nt (kn m) (fun i => kx i m) (kr m) E regs h nxt a w he st)
      · refine lift hm (wp_region ?_)
        have := evOps_ok hcall hext (kx := fun i => kx i m) (kr := kr m) ops.toList 0 (by simp) he st
        rwa [← List.range_eq_range', Array.length_toList] at this
  | seq x y ihx ihy =>
    intro kn kx kr m u E regs h nxt a w he hm st
    refine wpS_seq (wpS_weaken ?_ (ihx (evCodeD P call ext draw lf nt y kn kx kr) kx kr m u E regs h nxt a w he hm st))
    intro e a' cs' w' hl
    cases e with
    | normal =>
      obtain ⟨m', u', rfl, E', regs', h', nxt', hm', st', g, hk⟩ := hl
      exact wpS_weaken (fun e a cs w hh => hh.before g) (ihy kn kx kr m' u' E' regs' h' nxt' a' w' hk hm' st')
    | _ => exact hl
  | cond x t e iht ihe =>
    intro kn kx kr m u E regs h nxt a w he hm st
    have he : opd regs x (fun v => condK v h (fun h => evCodeD P call ext draw lf nt t kn kx kr m regs h nxt) (fun h => evCodeD P call ext draw lf nt e kn kx kr m regs h nxt)) = true := he
    obtain ⟨v, rv, he⟩ := opd_ok he st.regs
    obtain ⟨b, h1, hv, hr1, fk, he⟩ := condK_ok he rv st.heap
    refine wpS_weaken (fun e a cs w hh => LeavesM.before fk.goes hh) (wpS_cond (Q := LeavesM c₀ cs D E h1 w nt kn kx kr) hv ?_)
    rcases he with ⟨rfl, he⟩ | ⟨rfl, he⟩
    · exact iht kn kx kr m u E regs h1 nxt a w he hm ⟨st.regs, st.size, st.defers, hr1, JC.goes st.heap st.j fk.goes hr1⟩
    · exact ihe kn kx kr m u E regs h1 nxt a w he hm ⟨st.regs, st.size, st.defers, hr1, JC.goes st.heap st.j fk.goes hr1⟩
  | block id c ih =>
    intro kn kx kr m u E regs h nxt a w he hm st
    refine wpS_block (wpS_weaken ?_ (ih kn (fun i m regs h nxt => bc (Nat.beq i (Nat.mul 2 (Nat.succ id))) (kn m regs h nxt) (kx i m regs h nxt)) kr m u E regs h nxt a w he hm st))
    intro e a' cs' w' hl
    cases e with
    | exit i =>
      obtain ⟨m', u', rfl, E', regs', h', nxt', hm', st', g, hk⟩ := hl
      simp only [inBlockS]
      rcases bc_or hk with ⟨hi, hk⟩ | ⟨hi, hk⟩
      · have hi : 2 * (i + 1) = 2 * (id + 1) := Nat.eq_of_beq_eq_true hi
        rw [if_pos (by omega)]
        exact ⟨m', u', rfl, E', regs', h', nxt', hm', st', g, hk⟩
      · have hi : 2 * (i + 1) ≠ 2 * (id + 1) := Nat.ne_of_beq_eq_false hi
        rw [if_neg (by omega)]
        exact ⟨m', u', rfl, E', regs', h', nxt', hm', st', g, hk⟩
    | goto l =>
      obtain ⟨m', u', rfl, E', regs', h', nxt', hm', st', g, hk⟩ := hl
      rcases bc_or hk with ⟨hi, hk⟩ | ⟨hi, hk⟩
      · have hi : 2 * l + 1 = 2 * (id + 1) := Nat.eq_of_beq_eq_true hi
        omega
      · exact ⟨m', u', rfl, E', regs', h', nxt', hm', st', g, hk⟩
    | panic ch =>
      obtain ⟨m', u', rfl, E', regs', h', nxt', hm', st', g, V, v, hc, rv, hk⟩ := hl
      rcases bc_or hk with ⟨hi, hk⟩ | ⟨hi, hk⟩
      · have hi : 0 = 2 * (id + 1) := Nat.eq_of_beq_eq_true hi
        omega
      · exact ⟨m', u', rfl, E', regs', h', nxt', hm', st', g, V, v, hc, rv, hk⟩
    | _ => exact hl
  | loop c ih => intro kn kx kr m u E regs h nxt a w he hm st; exact lift hm (evCode_ok hcall hext hdraw (.loop c) 0 (kn m) (fun i => kx i m) (kr m) E regs h nxt a w he st _ rfl)
  | scope c ih => intro kn kx kr m u E regs h nxt a w he hm st; exact lift hm (evCode_ok hcall hext hdraw (.scope c) 0 (kn m) (fun i => kx i m) (kr m) E regs h nxt a w he st _ rfl)
  | exit id => intro kn kx kr m u E regs h nxt a w he hm st; exact lift hm (wp_exit ⟨E, regs, h, nxt, st, Goes.refl _ _ _, he⟩)
  | label l => intro kn kx kr m u E regs h nxt a w he hm st; exact lift hm (wp_label ⟨E, regs, h, nxt, st, Goes.refl _ _ _, he⟩)
  | ret => intro kn kx kr m u E regs h nxt a w he hm st; exact lift hm (wp_ret ⟨E, regs, h, nxt, st, Goes.refl _ _ _, he⟩)
  | _ => intro kn kx kr m u E regs h nxt a w he; cases he

theorem st_enter {args : List AV} {ARGS : Array Value} {E : Env} {h : Heap} {nxt : Nat} {w : World} {nt : Nat} (ra : RvL E args ARGS.toList) (hle : args.length ≤ nt) (hr : HR E h nxt w) (hj : JC.J E h w) :
    St [] E (wrLs args big 0) h nxt nt { tmps := ARGS ++ Array.replicate (nt - ARGS.size) undef, defers := [] } w := by
  have hla := ra.length
  have hlen : ARGS.size = args.length := by simpa using hla
  refine ⟨fun t => ?_, by simp; omega, rfl, hr, hj⟩
  by_cases ht : t < args.length
  · have := wrLs_new args ARGS.toList ra t ht
    have e : (ARGS ++ Array.replicate (nt - ARGS.size) undef).getD t undef = ARGS.toList.getD t undef := by
      have : t < ARGS.size := by omega
      simp [Array.getElem?_append, this]
    rw [e]; exact this
  · have : T.get .no (wrLs args big 0) t = .no := by
      have aux : ∀ (l : List AV) (c : T AV) (o : Nat), o + l.length ≤ t → T.get .no (wrLs l c o) t = T.get .no c t := by
        intro l
        induction l with
        | nil => intro c o _; rfl
        | cons v l ihl =>
          intro c o ho
          show T.get .no (wrLs l (T.set v c o) (o + 1)) t = _
          rw [ihl _ _ (by simp at ho; omega), T.get_set_ne _ _ _ _ _ (by simp at ho; omega)]
      rw [aux _ _ _ (by omega), big, T.get_full]
    rw [this]; simp [Rv]

/-- what was recovered is over -/
noncomputable def stlK (m : AV) (k : AV → Bool) : Bool := match m with
  | .no => k .no
  | .un => k .no
  | .pk v => k (.pk v)
  | _ => false
theorem stlK_ok {E : Env} {m : AV} {u : FrameMode} {k : AV → Bool} (he : stlK m k = true) (hm : Md E m u) : ∃ m', Md E m' (settle u) ∧ k m' = true := by
  unfold stlK at he
  unfold Md at hm
  split at he <;> try (cases he; done)
  · subst hm; exact ⟨.no, rfl, he⟩
  · obtain ⟨V, rfl⟩ := hm; exact ⟨.no, rfl, he⟩
  · obtain ⟨V, rfl, rv⟩ := hm; exact ⟨.pk _, (show Md E (.pk _) (settle _) from ⟨V, rfl, rv⟩), he⟩

abbrev KM := AV → Heap → Nat → Bool
noncomputable def evCallD (P : Program) (call : CallF) (ext : Exts) (draw : DrawF) (lf : Nat) (g : FuncId) (args : List AV) (m : AV) (h : Heap) (nxt : Nat) (k : KM) : Bool := match P.funcs[g]? with
  | some fn => (match fn.body with
    | some c => bc (fn.name == "runtime.NumGoroutine") false (bc (Nat.ble (List.length args) fn.ntmps) (wrL args big 0 fun regs =>
        evCodeD P call ext draw lf fn.ntmps c (fun m regs h nxt => evRes P fn regs h fun _ => k m h nxt) (fun _ _ _ _ _ => false) (fun m regs h nxt => evRes P fn regs h fun _ => k m h nxt) m regs h nxt) false)
    | none => false)
  | none => false

theorem evCallD_ok {P : Program} {call : CallF} {ext : Exts} {draw : DrawF} (hcall : CallOK P call) (hext : ExtOK P ext) (hdraw : DrawOK P draw) {lf : Nat} {g : FuncId} {args : List AV} {ARGS : Array Value} {m : AV} {u : FrameMode} {E : Env} {h : Heap} {nxt : Nat} {w : World} {k : KM}
    (he : evCallD P call ext draw lf g args m h nxt k = true) (ra : RvL E args ARGS.toList) (hm : Md E m u) (hr : HR E h nxt w) (hj : JC.J E h w) :
    (callFunc g ARGS).run P w = .ok (.enter g ARGS) w ∧ CallsD P g ARGS u w fun e u' w' => ∃ V, e = .returned V ∧ ∃ m' h' nxt' E', Md E' m' u' ∧ HR E' h' nxt' w' ∧ Goes E h w E' h' w' ∧ k m' h' nxt' = true := by
  unfold evCallD at he
  split at he <;> try (cases he; done)
  rename_i fn hfn
  split at he <;> try (cases he; done)
  rename_i c hb
  rcases bc_or he with ⟨_, hh⟩ | ⟨hn, he⟩
  · cases hh
  obtain ⟨hle, he⟩ := bc_and he
  rw [wrL_eq] at he
  have hn' : ¬ (fn.name = "runtime.NumGoroutine") := by
    intro e; rw [e] at hn; simp at hn
  refine ⟨by simp [callFunc, hfn, hb, hn'], callsD_of_wpS hfn hb fun c₀ cs hu => ?_⟩
  have hc : ({ c₀ with mode := u } : Frame) = c₀ := by rw [← hu]
  have key := evCodeD_ok (c₀ := c₀) (cs := cs) hcall hext hdraw c _ _ _ m u E _ h nxt _ w he hm (st_enter ra (Nat.le_of_ble_eq_true hle) hr hj)
  rw [hc] at key
  refine wpS_weaken ?_ key
  rintro e a' cs' w' ⟨m', u', rfl, E', regs', h', nxt', hm', st', g', hk⟩
  have fin : evRes P fn regs' h' (fun _ => k m' h' nxt') = true → a'.defers = [] ∧ ∃ u'', { c₀ with mode := u' } :: cs = { c₀ with mode := u'' } :: cs ∧ ∃ v, (results fn a'.tmps).run P w' = .ok v w' ∧
      ∃ V, Ending.returned v = .returned V ∧ ∃ m' h' nxt' E', Md E' m' u'' ∧ HR E' h' nxt' w' ∧ Goes E h w E' h' w' ∧ k m' h' nxt' = true := by
    intro hk
    obtain ⟨v, V, h1, h2, h3⟩ := evRes_ok hk st'
    exact ⟨st'.defers, u', rfl, V, h1, V, rfl, m', h', nxt', E', hm', st'.heap, g', h3⟩
  cases e with
  | normal => exact fin hk
  | ret => exact fin hk
  | exit i => cases hk
  | goto l => cases hk
  | panic l => obtain ⟨_, _, _, _, hk⟩ := hk; cases hk
  | outgrown => exact hk.elim

/-- what was deferred, the last one first -/
noncomputable def runD (P : Program) (call : CallF) (ext : Exts) (draw : DrawF) (lf : Nat) (ds : List AV) : AV → Heap → Nat → KM → Bool :=
  List.rec (motive := fun _ => AV → Heap → Nat → KM → Bool) (fun m h nxt k => k m h nxt)
    (fun d _ ih m h nxt k => match d with
      | .fn (.func g) l c => forceL (l ++ c) fun args => evCallD P call ext draw lf g args m h nxt fun m' h' nxt' => stlK m' fun m' => ih m' h' nxt' k
      | _ => false) ds

theorem runD_ok {P : Program} {call : CallF} {ext : Exts} {draw : DrawF} (hcall : CallOK P call) (hext : ExtOK P ext) (hdraw : DrawOK P draw) {lf : Nat} {fn : Func} {tmps : Array Value} {R : Ending → World → Prop} {k : KM} :
    ∀ (ds : List AV) (D : List Deferred) (m : AV) (u : FrameMode) (E : Env) (h : Heap) (nxt : Nat) (w : World), runD P call ext draw lf ds m h nxt k = true → RDL E ds D → Md E m u → HR E h nxt w → JC.J E h w →
      (∀ E' m' u' h' nxt' w', Md E' m' u' → HR E' h' nxt' w' → Goes E h w E' h' w' → k m' h' nxt' = true → Go.Leaves P fn tmps R [] u' w') → Go.Leaves P fn tmps R D u w
  | [], D, m, u, E, h, nxt, w, he, rd, hm, hr, hj, fin => by
    have rd : D = [] := rd
    subst rd
    exact fin E m u h nxt w hm hr (Goes.refl _ _ _) he
  | d :: ds, D, m, u, E, h, nxt, w, he, rd, hm, hr, hj, fin => by
    obtain ⟨dd, D', rfl, ⟨g, l, c, vs, ws, rfl, rfl, r1, r2⟩, rd'⟩ := rd
    have he : forceL (l ++ c) (fun args => evCallD P call ext draw lf g args m h nxt fun m' h' nxt' => stlK m' fun m' => runD P call ext draw lf ds m' h' nxt' k) = true := he
    rw [forceL_eq] at he
    obtain ⟨h1, h2⟩ := evCallD_ok (ARGS := vs.toArray ++ ws.toArray) hcall hext hdraw he (by simpa using r1.append r2) hm hr hj
    refine leaves_cons hm.run (args := vs.toArray ++ ws.toArray) (f := g) (by simpa [invoke] using h1) (h2.mono ?_)
    rintro e u' w' ⟨V, rfl, m', h', nxt', E', hm', hr', gs, hk⟩
    obtain ⟨m2, hm2, hk⟩ := stlK_ok hk hm'
    exact runD_ok hcall hext hdraw ds D' m2 _ E' h' nxt' w' hk (rd'.mono gs.ext) hm2 hr' (JC.goes hr hj gs hr') fun E2 m3 u3 h2 nxt2 w2 hm3 hr2 g2 hk2 => fin E2 m3 u3 h2 nxt2 w2 hm3 hr2 (gs.trans g2) hk2

/-- the end of a function that defers -/
noncomputable def endK (P : Program) (fn : Func) (k : K) (regs : Regs) : KM := fun m h nxt => match m with
  | .no => evRes P fn regs h fun v => k v h nxt
  | .pk v => k (.pk v) h nxt
  | _ => false
noncomputable def evEnd (P : Program) (call : CallF) (ext : Exts) (draw : DrawF) (lf : Nat) (fn : Func) (k : K) : SD := fun ds regs h nxt => runD P call ext draw lf ds .no h nxt (endK P fn k regs)
noncomputable def evThrow (P : Program) (call : CallF) (ext : Exts) (draw : DrawF) (lf : Nat) (fn : Func) (k : K) : SD := fun ds regs h nxt => match regs with
  | .node v regs _ => runD P call ext draw lf ds (.pk v) h nxt (endK P fn k regs)
  | .nil => false
noncomputable def only0 {α : Type} (x y : α) (i : Nat) : α := Nat.rec (motive := fun _ => α) x (fun _ _ => y) i

noncomputable def evBodyF (P : Program) (call : CallF) (ext : Exts) (draw : DrawF) (lf : Nat) (fn : Func) (c : Code) (regs : Regs) (h : Heap) (nxt : Nat) (k : K) : Bool :=
  evCodeF P call ext draw lf fn.ntmps c 0 (evEnd P call ext draw lf fn k) (only0 (evThrow P call ext draw lf fn k) fun _ _ _ _ => false) (evEnd P call ext draw lf fn k) [] regs h nxt

theorem evBodyF_ok {P : Program} {call : CallF} {ext : Exts} {draw : DrawF} (hcall : CallOK P call) (hext : ExtOK P ext) (hdraw : DrawOK P draw) {lf : Nat} {g : FuncId} {fn : Func} {c : Code} (hfn : P.funcs[g]? = some fn) (hb : fn.body = some c) {args : List AV} {ARGS : Array Value} {E : Env} {h : Heap} {nxt : Nat} {w : World} {k : K}
    (he : evBodyF P call ext draw lf fn c (wrLs args big 0) h nxt k = true) (ra : RvL E args ARGS.toList) (hle : args.length ≤ fn.ntmps) (hr : HR E h nxt w) (hj : JC.J E h w) :
    Calls P g ARGS w (Ends E h w k) := by
  refine calls_of_wp_defers hfn hb (wp_mono (evCodeF_ok hcall hext hdraw c 0 _ _ _ [] [] E _ h nxt _ w he (st_enter ra hle hr hj) rfl c rfl) ?_)
  rintro e a' w' ⟨D, ds, E', regs', h', nxt', st', rd, g', hk⟩
  have fin : ∀ (m : AV) (u : FrameMode), Md E' m u → runD P call ext draw lf ds m h' nxt' (endK P fn k regs') = true → Go.Leaves P fn a'.tmps (Ends E h w k) a'.defers u w' := by
    intro m u hm hk
    rw [st'.defers]
    refine runD_ok hcall hext hdraw ds D m u E' h' nxt' w' hk rd hm st'.heap st'.j fun E2 m2 u2 h2 nxt2 w2 hm2 hr2 g2 hk2 => ?_
    have st2 : St D E2 regs' h2 nxt2 fn.ntmps a' w2 := st'.mono g2 hr2
    unfold endK at hk2
    unfold Md at hm2
    split at hk2 <;> try (cases hk2; done)
    · subst hm2
      obtain ⟨v, V, e1, e2, e3⟩ := evRes_ok hk2 st2
      exact ⟨V, e1, .inl ⟨V, rfl, v, h2, nxt2, E2, e2, hr2, g'.trans g2, e3⟩⟩
    · obtain ⟨V, rfl, rv⟩ := hm2
      exact .inr ⟨V, rfl, _, h2, nxt2, E2, rv, hr2, g'.trans g2, hk2⟩
  cases e with
  | normal => exact fin .no .returning rfl hk
  | ret => exact fin .no .returning rfl hk
  | exit i => cases hk
  | goto l => cases hk
  | panic l =>
    obtain ⟨V, v, rfl, rv, hk⟩ := hk
    exact fin (.pk v) _ ⟨V, rfl, rv⟩ hk
  | outgrown => exact hk.elim

/-- the end of a function that defers nothing, by a panic -/
noncomputable def evOut (k : K) : S := fun regs h nxt => match regs with
  | .node v _ _ => k (.pk v) h nxt
  | .nil => false

noncomputable def evBody (P : Program) (call : CallF) (ext : Exts) (draw : CallF → DrawF) (lf : Nat) (g : FuncId) (args : List AV) (h : Heap) (nxt : Nat) (k : K) : Bool := match P.funcs[g]? with
  | some fn => (match fn.body with
    | some c => bc (Nat.ble (List.length args) fn.ntmps) (wrL args big 0 fun regs => bc (anyOp isDefer c) (evBodyF P call ext (draw call) lf fn c regs h nxt k)
        (evCode P call ext (draw call) lf fn.ntmps c 0 (fun regs h nxt => evRes P fn regs h fun v => k v h nxt) (only0 (evOut k) fun _ _ _ => false) (fun regs h nxt => evRes P fn regs h fun v => k v h nxt) regs h nxt)) false
    | none => false)
  | none => false

/-- functions that are taken by contract -/
abbrev Specs := FuncId → Option (List AV → Heap → Nat → K → Bool)
def SpecOK (P : Program) (sp : Specs) : Prop := ∀ (g : FuncId) (C : List AV → Heap → Nat → K → Bool), sp g = some C → ∀ (args : List AV) (ARGS : Array Value) (E : Env) (h : Heap) (nxt : Nat) (w : World) (k : K),
  C args h nxt k = true → RvL E args ARGS.toList → HR E h nxt w → JC.J E h w → Calls P g ARGS w (Ends E h w k)
theorem SpecOK.none {P : Program} : SpecOK P fun _ => none := fun _ _ h => by cases h

noncomputable def evCall (P : Program) (sp : Specs) (ext : Exts) (draw : CallF → DrawF) (lf : Nat) (n : Nat) : CallF :=
  Nat.rec (motive := fun _ => CallF) (fun _ _ _ _ _ => false) (fun _ ih g args h nxt k => match sp g with
    | some C => C args h nxt k
    | none => evBody P ih ext draw lf g args h nxt k) n

theorem evCall_ok {P : Program} {sp : Specs} {ext : Exts} {draw : CallF → DrawF} (hsp : SpecOK P sp) (hext : ExtOK P ext) (hdraw : ∀ call, CallOK P call → DrawOK P (draw call)) {lf : Nat} : ∀ n, CallOK P (evCall P sp ext draw lf n)
  | 0 => fun g args ARGS E h nxt w k he => by cases he
  | n + 1 => by
    intro g args ARGS E h nxt w k he ra hr hj
    have ih := evCall_ok hsp hext hdraw (lf := lf) n
    have he : (match sp g with
      | some C => C args h nxt k
      | none => evBody P (evCall P sp ext draw lf n) ext draw lf g args h nxt k) = true := he
    split at he
    · rename_i C hC
      exact hsp g C hC args ARGS E h nxt w k he ra hr hj
    unfold evBody at he
    split at he <;> try (cases he; done)
    rename_i fn hfn
    split at he <;> try (cases he; done)
    rename_i c hb
    obtain ⟨hle, he⟩ := bc_and he
    have hle := Nat.le_of_ble_eq_true hle
    rw [wrL_eq] at he
    rcases bc_or he with ⟨_, he⟩ | ⟨_, he⟩
    · exact evBodyF_ok ih hext (hdraw _ ih) hfn hb he ra hle hr hj
    have st := st_enter ra hle hr hj
    refine calls_of_wp hfn hb (wp_mono (evCode_ok ih hext (hdraw _ ih) c 0 _ _ _ E _ h nxt _ w he st c rfl) ?_)
    intro e a' w' hl
    obtain ⟨E', regs', h', nxt', st', g', hk⟩ := hl
    have fin : evRes P fn regs' h' (fun v => k v h' nxt') = true → a'.defers = [] ∧ ∃ v, (results fn a'.tmps).run P w' = .ok v w' ∧ Ends E h w k (.returned v) w' := by
      intro hk
      obtain ⟨v, V, h1, h2, h3⟩ := evRes_ok hk st'
      exact ⟨st'.defers, V, h1, .inl ⟨V, rfl, v, h', nxt', E', h2, st'.heap, g', h3⟩⟩
    cases e with
    | normal => exact fin hk
    | ret => exact fin hk
    | exit i => cases hk
    | goto l => cases hk
    | panic l =>
      obtain ⟨_, V, v, rfl, rv, hk⟩ := hk
      exact ⟨st'.defers, .inr ⟨V, rfl, v, h', nxt', E', rv, st'.heap, g', hk⟩⟩
    | outgrown => exact hk.elim
end Go.Proofs.YtbmekbpgoakkbaaGreatDoor.Vx
