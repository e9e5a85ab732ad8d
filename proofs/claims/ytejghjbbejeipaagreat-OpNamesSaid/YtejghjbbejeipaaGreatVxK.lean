/- The evaluator of codes and of functions, over a law for each region. No condition. -/
import Derived.Test.YtejghjbbejeipaaGreatVxI
import Derived.LoopN
set_option linter.unusedVariables false
set_option linter.unusedSimpArgs false
namespace Go.Proofs.YtejghjbbejeipaaGreat.Vx
open Go

abbrev S := Regs → Heap → Nat → Bool

structure St (E : Env) (regs : Regs) (h : Heap) (nxt nt : Nat) (a : Act) (w : World) : Prop where
  regs : Rr E regs a.tmps
  size : a.tmps.size = nt
  defers : a.defers = []
  heap : HR E h nxt w

theorem St.put {E : Env} {regs : Regs} {h : Heap} {nxt nt : Nat} {a : Act} {w : World} (s : St E regs h nxt nt a w) {d : Nat} {v : AV} {V : Value} (hd : d + 1 ≤ nt) (rv : Rv E v V) :
    St E (T.set v regs d) h nxt nt (a.put (some d) V) w := by
  refine ⟨fun t => ?_, by simpa [Act.put] using s.size, by simpa [Act.put] using s.defers, s.heap⟩
  by_cases e : t = d
  · subst e
    have hlt : t < a.tmps.size := by rw [s.size]; omega
    rcases T.get_set_eq AV.no v regs t with g | g <;> rw [g]
    · simpa [Act.put, hlt] using rv
    · simp [Rv]
  · rw [T.get_set_ne _ _ _ _ _ e]
    have : (a.put (some d) V).tmps.getD t undef = a.tmps.getD t undef := by
      simp [Act.put, Array.getElem?_setIfInBounds_ne (Ne.symm e)]
    rw [this]; exact s.regs t

theorem St.mono {E E' : Env} {regs : Regs} {h h' : Heap} {nxt nxt' nt : Nat} {a : Act} {w w' : World} (s : St E regs h nxt nt a w) (hE : E.le E') (hr : HR E' h' nxt' w') : St E' regs h' nxt' nt a w' :=
  ⟨s.regs.mono hE, s.size, s.defers, hr⟩

/-- what a piece of code leaves, and what goes on from there -/
def Leaves (E : Env) (h : Heap) (w : World) (nt : Nat) (kn : S) (kx : Nat → S) (kr : S) : Exit → Act → World → Prop := fun e a' w' =>
  ∃ E' regs' h' nxt', St E' regs' h' nxt' nt a' w' ∧ Goes E h w E' h' w' ∧ (match e with
    | .normal => kn regs' h' nxt' = true
    | .exit i => kx i regs' h' nxt' = true
    | .ret => kr regs' h' nxt' = true
    | _ => False)

theorem Leaves.before {E E1 : Env} {h h1 : Heap} {w w1 : World} {nt : Nat} {kn : S} {kx : Nat → S} {kr : S} {e : Exit} {a' : Act} {w' : World} (g : Goes E h w E1 h1 w1) (l : Leaves E1 h1 w1 nt kn kx kr e a' w') :
    Leaves E h w nt kn kx kr e a' w' := by
  obtain ⟨E', regs', h', nxt', s, g', r⟩ := l
  exact ⟨E', regs', h', nxt', s, g.trans g', r⟩

/-! ### Regions whose order is that of the text -/
/-- is an operation wanted? -/
noncomputable def wantK (ops : Array Oper) (o : Oper) (regs : Regs) (yes no : Bool) : Bool := match o.guard with
  | none => yes
  | some (j, b) => match (ops[j]?).bind (·.dst) with
    | some d => (match T.get .no regs d with
      | .b x => bc x (bc b yes no) (bc b no yes)
      | .un => no
      | _ => false)
    | none => no

theorem wantK_ok {E : Env} {regs : Regs} {a : Act} {ops : Array Oper} {o : Oper} {yes no : Bool} (he : wantK ops o regs yes no = true) (r : Rr E regs a.tmps) :
    (Region.wanted o (yielded ops a.tmps) = true ∧ yes = true) ∨ (Region.wanted o (yielded ops a.tmps) = false ∧ no = true) := by
  unfold wantK at he
  split at he
  · rename_i hg
    exact .inl ⟨by simp [Region.wanted, hg], he⟩
  · rename_i j b hg
    split at he
    · rename_i d hd
      have rd := r d
      split at he
      · rename_i x hx
        rw [hx, Rv] at rd
        have hlt : d < a.tmps.size := by
          rcases Nat.lt_or_ge d a.tmps.size with hh | hh
          · exact hh
          · simp [Array.getElem?_eq_none hh, undef] at rd
        have hget : a.tmps[d]? = some (.bool x) := by
          simp [hlt] at rd ⊢; exact rd
        have hy : yielded ops a.tmps j = some x := by simp [yielded, hd, hget]
        have hw : Region.wanted o (yielded ops a.tmps) = (x == b) := by
          simp only [Region.wanted, hg, hy]
          cases x <;> cases b <;> rfl
        rw [hw]
        cases x <;> cases b <;> simp_all [bc]
      · rename_i hx
        rw [hx, Rv] at rd
        have hy : yielded ops a.tmps j = none := by
          simp only [yielded, hd, Option.bind_some]
          cases hget : a.tmps[d]? with
          | none => rfl
          | some v =>
            have : v = undef := by simpa [hget] using rd
            subst this; rfl
        exact .inr ⟨by simp [Region.wanted, hg, hy], he⟩
      · cases he
    · rename_i hd
      have hy : yielded ops a.tmps j = none := by simp [yielded, hd]
      exact .inr ⟨by simp [Region.wanted, hg, hy], he⟩

noncomputable def putK (dst : Option Tmp) (nt : Nat) (v : AV) (regs : Regs) (k : Regs → Bool) : Bool := match dst with
  | none => k regs
  | some d => bc (Nat.ble (d + 1) nt) (T.setK v regs d k) false

theorem putK_ok {E : Env} {regs : Regs} {h : Heap} {nxt nt : Nat} {a : Act} {w : World} {dst : Option Tmp} {v : AV} {V : Value} {k : Regs → Bool} (he : putK dst nt v regs k = true) (s : St E regs h nxt nt a w) (rv : Rv E v V) :
    ∃ regs', St E regs' h nxt nt (a.put dst V) w ∧ k regs' = true := by
  cases dst with
  | none => exact ⟨regs, s, he⟩
  | some d =>
    obtain ⟨h1, h2⟩ := bc_and he
    rw [T.setK_eq] at h2
    exact ⟨_, s.put (Nat.le_of_ble_eq_true h1) rv, h2⟩

noncomputable def evOps (P : Program) (call : CallF) (ext : Exts) (nt : Nat) (ops : Array Oper) (l : List Oper) : S → S :=
  List.rec (motive := fun _ => S → S) (fun kn => kn)
    (fun o _ ih kn regs h nxt => wantK ops o regs
      (evOp P call ext o.op regs h nxt fun v h' nxt' => putK o.dst nt v regs fun regs' => ih kn regs' h' nxt')
      (putK o.dst nt .un regs fun regs' => ih kn regs' h nxt)) l

theorem evOps_ok {P : Program} {call : CallF} {ext : Exts} (hcall : CallOK P call) (hext : ExtOK P ext) {nt : Nat} {ops : Array Oper} {kn : S} {kx : Nat → S} {kr : S} :
    ∀ (l : List Oper) (s : Nat), l = ops.toList.drop s → ∀ {E : Env} {regs : Regs} {h : Heap} {nxt : Nat} {a : Act} {w : World}, evOps P call ext nt ops l kn regs h nxt = true → St E regs h nxt nt a w →
      wpOps P ops (Leaves E h w nt kn kx kr) (List.range' s l.length) a w
  | [], s, _, E, regs, h, nxt, a, w, he, st => ⟨E, regs, h, nxt, st, Goes.refl _ _ _, he⟩
  | o :: l, s, hl, E, regs, h, nxt, a, w, he, st => by
    have hos : ops[s]? = some o := by
      have := congrArg (fun l => l[0]?) hl
      simpa using this.symm
    have hl' : l = ops.toList.drop (s + 1) := by
      have := congrArg List.tail hl
      simpa using this
    have hw : ∀ {E1 : Env} {h1 : Heap} {w1 : World} {Q : List Nat}, Goes E h w E1 h1 w1 → ∀ a1, wpOps P ops (Leaves E1 h1 w1 nt kn kx kr) Q a1 w1 → wpOps P ops (Leaves E h w nt kn kx kr) Q a1 w1 := by
      intro E1 h1 w1 Q g
      have mono : ∀ (Q : List Nat) (a1 : Act) (w2 : World), wpOps P ops (Leaves E1 h1 w1 nt kn kx kr) Q a1 w2 → wpOps P ops (Leaves E h w nt kn kx kr) Q a1 w2 := by
        intro Q
        induction Q with
        | nil => intro a1 w2 hh; exact hh.before g
        | cons i Q ih =>
          intro a1 w2 hh
          rw [wpOps_cons] at *
          unfold wpOp at *
          split
          · rename_i hn; simp only [hn] at hh; exact ih _ _ hh
          · rename_i o' ho'
            simp only [ho'] at hh
            split
            · rename_i hw'
              simp only [hw', if_true] at hh
              rcases hh with hh | ⟨h1, a2, w3, h2⟩
              · refine .inl ?_
                have h3 := Oper.wp_mono ih hh
                unfold Oper.wp at *
                generalize (execOp a1.eval o').run P w2 = r at *
                cases r with
                | ok n w4 =>
                  cases n <;> simp only [Oper.upon] at h3 ⊢ <;> first
                    | exact h3
                    | (refine Calls.mono h3 ?_
                       intro e w5 he5
                       cases e with
                       | returned v => exact he5
                       | panicked c => exact he5.before g
                       | outgrown => obtain ⟨a6, w6, h6⟩ := he5; exact ⟨a6, w6, h6.before g⟩)
                | halt x w4 => cases x <;> simp only [Oper.upon] at h3 ⊢ <;> first | exact h3.before g | exact h3
              · exact .inr ⟨h1, a2, w3, h2.before g⟩
            · rename_i hw'
              simp only [hw'] at hh
              exact ih _ _ hh
      exact fun a1 => mono Q a1 w1
    rw [List.length_cons, List.range'_succ, wpOps_cons]
    unfold wpOp
    simp only [hos]
    have he : wantK ops o regs
      (evOp P call ext o.op regs h nxt fun v h' nxt' => putK o.dst nt v regs fun regs' => evOps P call ext nt ops l kn regs' h' nxt')
      (putK o.dst nt .un regs fun regs' => evOps P call ext nt ops l kn regs' h nxt) = true := he
    rcases wantK_ok he st.regs with ⟨h1, he⟩ | ⟨h1, he⟩
    · rw [if_pos h1]
      refine .inl ?_
      refine Oper.wp_mono ?_ (evOp_ok hcall hext he st.regs st.heap (Leaves E h w nt kn kx kr))
      rintro a' w' ⟨V, rfl, v, h', nxt', E', rv, hr', g, hk⟩
      obtain ⟨regs', st', hk⟩ := putK_ok hk (st.mono g.ext hr') rv
      exact hw g _ (evOps_ok hcall hext l (s + 1) hl' hk st')
    · rw [if_neg (by simp [h1])]
      obtain ⟨regs', st', hk⟩ := putK_ok he st (V := undef) (by rw [Rv])
      exact evOps_ok hcall hext l (s + 1) hl' hk st'

/-- a law for regions that draw their order -/
abbrev DrawF := Array Oper → Nat → S → S
def DrawOK (P : Program) (draw : DrawF) : Prop := ∀ (id : Nat) (ops : Array Oper) (nt : Nat) (kn : S) (kx : Nat → S) (kr : S) (E : Env) (regs : Regs) (h : Heap) (nxt : Nat) (a : Act) (w : World),
  draw ops nt kn regs h nxt = true → St E regs h nxt nt a w → (Code.region id ops true).wp P (Leaves E h w nt kn kx kr) a w

/-! ### Code -/
noncomputable def loopK (body : S → S) (kn : Nat) : S :=
  Nat.rec (motive := fun _ => S) (fun _ _ _ => false) (fun _ ih => body ih) kn

noncomputable def evCode (P : Program) (call : CallF) (ext : Exts) (draw : DrawF) (lf nt : Nat) (c : Code) : S → (Nat → S) → S → S :=
  Code.rec (motive := fun _ => S → (Nat → S) → S → S)
    (fun kn _ _ => kn)
    (fun _ ops d kn _ _ regs h nxt => bc d (draw ops nt kn regs h nxt) (evOps P call ext nt ops ops.toList kn regs h nxt))
    (fun _ _ iha ihb kn kx kr => iha (ihb kn kx kr) kx kr)
    (fun x _ _ iht ihe kn kx kr regs h nxt => opd regs x fun v => match v with
      | .b t => bc t (iht kn kx kr regs h nxt) (ihe kn kx kr regs h nxt)
      | _ => false)
    (fun id _ ih kn kx kr => ih kn (fun i regs h nxt => bc (Nat.beq i id) (kn regs h nxt) (kx i regs h nxt)) kr)
    (fun _ ih _ kx kr => loopK (fun kn => ih kn kx kr) lf)
    (fun _ _ _ _ _ _ _ _ _ _ _ _ => false)
    (fun id _ kx _ => kx id)
    (fun _ _ _ _ _ _ _ _ => false)
    (fun _ _ _ _ _ _ _ => false)
    (fun _ _ _ _ _ _ _ => false)
    (fun _ _ kr => kr)
    (fun _ _ _ _ _ _ _ => false) c

theorem evCode_ok {P : Program} {call : CallF} {ext : Exts} {draw : DrawF} (hcall : CallOK P call) (hext : ExtOK P ext) (hdraw : DrawOK P draw) {lf nt : Nat} :
    ∀ (c : Code) (kn : S) (kx : Nat → S) (kr : S) (E : Env) (regs : Regs) (h : Heap) (nxt : Nat) (a : Act) (w : World), evCode P call ext draw lf nt c kn kx kr regs h nxt = true → St E regs h nxt nt a w →
      c.wp P (Leaves E h w nt kn kx kr) a w := by
  intro c
  induction c with
  | skip => intro kn kx kr E regs h nxt a w he st; exact wp_skip ⟨E, regs, h, nxt, st, Goes.refl _ _ _, he⟩
  | region id ops d =>
    intro kn kx kr E regs h nxt a w he st
    have he : bc d (draw ops nt kn regs h nxt) (evOps P call ext nt ops ops.toList kn regs h nxt) = true := he
    rcases bc_or he with ⟨rfl, he⟩ | ⟨rfl, he⟩
    · exact hdraw id ops nt kn kx kr E regs h nxt a w he st
    · refine wp_region ?_
      have := evOps_ok hcall hext (kx := kx) (kr := kr) ops.toList 0 (by simp) he st
      rwa [← List.range_eq_range', Array.length_toList] at this
  | seq x y ihx ihy =>
    intro kn kx kr E regs h nxt a w he st
    refine wp_seq (wp_mono (ihx (evCode P call ext draw lf nt y kn kx kr) kx kr E regs h nxt a w he st) ?_)
    intro e a' w' hl
    cases e with
    | normal =>
      obtain ⟨E', regs', h', nxt', st', g, hk⟩ := hl
      exact wp_mono (ihy kn kx kr E' regs' h' nxt' a' w' hk st') fun e a2 w2 h2 => h2.before g
    | _ => exact hl
  | cond x t e iht ihe =>
    intro kn kx kr E regs h nxt a w he st
    have he : opd regs x (fun v => match v with
      | .b t' => bc t' (evCode P call ext draw lf nt t kn kx kr regs h nxt) (evCode P call ext draw lf nt e kn kx kr regs h nxt)
      | _ => false) = true := he
    obtain ⟨v, rv, he⟩ := opd_ok he st.regs
    split at he <;> try (cases he; done)
    rename_i b
    rw [Rv] at rv
    refine wp_cond rv ?_
    rcases bc_or he with ⟨rfl, he⟩ | ⟨rfl, he⟩
    · exact iht kn kx kr E regs h nxt a w he st
    · exact ihe kn kx kr E regs h nxt a w he st
  | block id c ih =>
    intro kn kx kr E regs h nxt a w he st
    refine wp_block (wp_mono (ih kn (fun i regs h nxt => bc (Nat.beq i id) (kn regs h nxt) (kx i regs h nxt)) kr E regs h nxt a w he st) ?_)
    intro e a' w' hl
    cases e with
    | exit i =>
      obtain ⟨E', regs', h', nxt', st', g, hk⟩ := hl
      simp only [Exit.inBlock]
      rcases bc_or hk with ⟨hi, hk⟩ | ⟨hi, hk⟩
      · rw [if_pos (Nat.eq_of_beq_eq_true hi)]
        exact ⟨E', regs', h', nxt', st', g, hk⟩
      · rw [if_neg (Nat.ne_of_beq_eq_false hi)]
        exact ⟨E', regs', h', nxt', st', g, hk⟩
    | _ => exact hl
  | loop c ih =>
    intro kn kx kr E regs h nxt a w he st
    have he : loopK (fun kn => evCode P call ext draw lf nt c kn kx kr) lf regs h nxt = true := he
    refine wp_loop_rounds lf ?_
    have key : ∀ (n : Nat) (E1 : Env) (regs : Regs) (h1 : Heap) (nxt : Nat) (a : Act) (w1 : World), Goes E h w E1 h1 w1 → loopK (fun kn => evCode P call ext draw lf nt c kn kx kr) n regs h1 nxt = true → St E1 regs h1 nxt nt a w1 →
        Code.rounds P c (Leaves E h w nt kn kx kr) n a w1 := by
      intro n
      induction n with
      | zero => intro E1 regs h1 nxt a w1 _ he _; cases he
      | succ n ihn =>
        intro E1 regs h1 nxt a w1 g he st
        rw [rounds_succ]
        refine wp_mono (ih (loopK (fun kn => evCode P call ext draw lf nt c kn kx kr) n) kx kr E1 regs h1 nxt a w1 he st) ?_
        intro e a' w' hl
        cases e with
        | normal =>
          obtain ⟨E', regs', h', nxt', st', g', hk⟩ := hl
          exact ihn E' regs' h' nxt' a' w' (g.trans g') hk st'
        | exit i => obtain ⟨E', regs', h', nxt', st', g', hk⟩ := hl; exact ⟨E', regs', h', nxt', st', g.trans g', hk⟩
        | ret => obtain ⟨E', regs', h', nxt', st', g', hk⟩ := hl; exact ⟨E', regs', h', nxt', st', g.trans g', hk⟩
        | goto l => obtain ⟨_, _, _, _, _, _, hk⟩ := hl; exact hk.elim
        | panic l => obtain ⟨_, _, _, _, _, _, hk⟩ := hl; exact hk.elim
        | outgrown => obtain ⟨_, _, _, _, _, _, hk⟩ := hl; exact hk.elim
    exact key lf E regs h nxt a w (Goes.refl _ _ _) he st
  | exit id => intro kn kx kr E regs h nxt a w he st; exact wp_exit ⟨E, regs, h, nxt, st, Goes.refl _ _ _, he⟩
  | ret => intro kn kx kr E regs h nxt a w he st; exact wp_ret ⟨E, regs, h, nxt, st, Goes.refl _ _ _, he⟩
  | _ => intro kn kx kr E regs h nxt a w he st; cases he

/-! ### Functions -/
noncomputable def evRes1 (P : Program) (r : ResultVar) (regs : Regs) (h : Heap) (k : AV → Bool) : Bool := match r with
  | .tmp t => force (T.get .no regs t) k
  | .cell t ty => evLoad P ty (T.get .no regs t) h k

noncomputable def evResL (P : Program) (l : List ResultVar) (regs : Regs) (h : Heap) : (List AV → Bool) → Bool :=
  List.rec (motive := fun _ => (List AV → Bool) → Bool) (fun k => k []) (fun r _ ih k => evRes1 P r regs h fun v => ih fun l => k (v :: l)) l

noncomputable def evRes (P : Program) (fn : Func) (regs : Regs) (h : Heap) (k : AV → Bool) : Bool :=
  evResL P fn.results.toList regs h fun l => match l with
    | [v] => k v
    | l => k (.tu l)

theorem evRes1_ok {P : Program} {r : ResultVar} {regs : Regs} {h : Heap} {k : AV → Bool} {E : Env} {nxt nt : Nat} {a : Act} {w : World} (he : evRes1 P r regs h k = true) (st : St E regs h nxt nt a w) :
    ∃ v V, (match r with | .tmp t => pure (a.tmps.getD t undef) | .cell b t => do loadVar t (← asAddr (a.tmps.getD b undef)) : Sem Value).run P w = .ok V w ∧ Rv E v V ∧ k v = true := by
  cases r with
  | tmp t =>
    have he : force (T.get .no regs t) k = true := he
    rw [force_eq] at he
    exact ⟨_, a.tmps.getD t undef, rfl, st.regs t, he⟩
  | cell t ty =>
    have he : evLoad P ty (T.get .no regs t) h k = true := he
    obtain ⟨v, V, h1, h2, h3⟩ := evLoad_ok he (st.regs t) st.heap
    refine ⟨v, V, ?_, h2, h3⟩
    rw [← h1]
    have : ∃ A, a.tmps.getD t undef = .pointer (some A) := by
      have rt := st.regs t
      unfold evLoad at he
      split at he <;> try (cases he; done)
      · rename_i id off heq
        rw [heq, Rv] at rt
        obtain ⟨L, _, e⟩ := rt
        exact ⟨_, e⟩
      · rename_i g off heq
        rw [heq, Rv] at rt
        exact ⟨_, rt⟩
    obtain ⟨A, e⟩ := this
    show (do loadVar ty (← asAddr (a.tmps.getD t undef)) : Sem Value).run P w = _
    rw [e]
    rfl

theorem evResL_ok {P : Program} {regs : Regs} {h : Heap} {E : Env} {nxt nt : Nat} {a : Act} {w : World} (st : St E regs h nxt nt a w) : ∀ (l : List ResultVar) {k : List AV → Bool}, evResL P l regs h k = true →
    ∃ vs VS, (l.mapM fun r => (match r with | .tmp t => pure (a.tmps.getD t undef) | .cell b t => do loadVar t (← asAddr (a.tmps.getD b undef)) : Sem Value)).run P w = .ok VS w ∧ RvL E vs VS ∧ k vs = true
  | [], k, he => ⟨[], [], by simp, .nil, he⟩
  | r :: l, k, he => by
    have he : evRes1 P r regs h (fun v => evResL P l regs h fun l => k (v :: l)) = true := he
    obtain ⟨v, V, h1, h2, he⟩ := evRes1_ok he st
    obtain ⟨vs, VS, h3, h4, he⟩ := evResL_ok st l he
    refine ⟨v :: vs, V :: VS, ?_, .cons h2 h4, he⟩
    rw [List.mapM_cons, Sem.run_bind, h1]
    simp only [Result.andThen_ok, Sem.run_bind, h3, Sem.run_pure]

theorem evRes_ok {P : Program} {fn : Func} {regs : Regs} {h : Heap} {k : AV → Bool} {E : Env} {nxt nt : Nat} {a : Act} {w : World} (he : evRes P fn regs h k = true) (st : St E regs h nxt nt a w) :
    ∃ v V, (results fn a.tmps).run P w = .ok V w ∧ Rv E v V ∧ k v = true := by
  obtain ⟨vs, VS, h1, h2, he⟩ := evResL_ok st _ he
  have hm : (results fn a.tmps).run P w = .ok (if h : VS.toArray.size = 1 then VS.toArray[0] else .tuple VS.toArray) w := by
    unfold results
    rw [Sem.run_bind]
    have e : ∀ (f : ResultVar → Sem Value), (fn.results.mapM f).run P w = ((fn.results.toList.mapM f).run P w).andThen fun l w' => .ok l.toArray w' := by
      intro f
      rw [Array.mapM_eq_mapM_toList, Sem.run_map]
    rw [e]
    exact (congrArg (fun r : Result (List Value) => (r.andThen fun l w' => Result.ok l.toArray w').andThen fun vs w' => (pure (if h : vs.size = 1 then vs[0] else .tuple vs) : Sem Value).run P w') h1).trans rfl
  have hlen := h2.length
  split at he
  · rename_i v
    obtain ⟨V, rfl, rv⟩ := h2.one
    exact ⟨v, V, by rw [hm]; simp, rv, he⟩
  · rename_i hne
    have : VS.length ≠ 1 := by
      intro hl
      rw [hl] at hlen
      match vs, hlen with
      | [v], _ => exact hne v rfl
    exact ⟨_, .tuple VS.toArray, by rw [hm]; simp [this], by rw [Rv]; exact ⟨VS, rfl, h2⟩, he⟩

noncomputable def evBody (P : Program) (call : CallF) (ext : Exts) (draw : CallF → DrawF) (lf : Nat) (g : FuncId) (args : List AV) (h : Heap) (nxt : Nat) (k : K) : Bool := match P.funcs[g]? with
  | some fn => (match fn.body with
    | some c => bc (Nat.ble (List.length args) fn.ntmps) (wrL args big 0 fun regs =>
        evCode P call ext (draw call) lf fn.ntmps c (fun regs h nxt => evRes P fn regs h fun v => k v h nxt) (fun _ _ _ _ => false) (fun regs h nxt => evRes P fn regs h fun v => k v h nxt) regs h nxt) false
    | none => false)
  | none => false

/-- functions that are taken by contract -/
abbrev Specs := FuncId → Option (List AV → Heap → Nat → K → Bool)
def SpecOK (P : Program) (sp : Specs) : Prop := ∀ (g : FuncId) (C : List AV → Heap → Nat → K → Bool), sp g = some C → ∀ (args : List AV) (ARGS : Array Value) (E : Env) (h : Heap) (nxt : Nat) (w : World) (k : K),
  C args h nxt k = true → RvL E args ARGS.toList → HR E h nxt w → Calls P g ARGS w fun e w' => ∃ V, e = .returned V ∧ Gives E h w k V w'
theorem SpecOK.none {P : Program} : SpecOK P fun _ => none := fun _ _ h => by cases h

noncomputable def evCall (P : Program) (sp : Specs) (ext : Exts) (draw : CallF → DrawF) (lf : Nat) (n : Nat) : CallF :=
  Nat.rec (motive := fun _ => CallF) (fun _ _ _ _ _ => false) (fun _ ih g args h nxt k => match sp g with
    | some C => C args h nxt k
    | none => evBody P ih ext draw lf g args h nxt k) n

theorem evCall_ok {P : Program} {sp : Specs} {ext : Exts} {draw : CallF → DrawF} (hsp : SpecOK P sp) (hext : ExtOK P ext) (hdraw : ∀ call, CallOK P call → DrawOK P (draw call)) {lf : Nat} : ∀ n, CallOK P (evCall P sp ext draw lf n)
  | 0 => fun g args ARGS E h nxt w k he => by cases he
  | n + 1 => by
    intro g args ARGS E h nxt w k he ra hr
    have ih := evCall_ok hsp hext hdraw (lf := lf) n
    have he : (match sp g with
      | some C => C args h nxt k
      | none => evBody P (evCall P sp ext draw lf n) ext draw lf g args h nxt k) = true := he
    split at he
    · rename_i C hC
      exact hsp g C hC args ARGS E h nxt w k he ra hr
    unfold evBody at he
    split at he <;> try (cases he; done)
    rename_i fn hfn
    split at he <;> try (cases he; done)
    rename_i c hb
    obtain ⟨hle, he⟩ := bc_and he
    have hle := Nat.le_of_ble_eq_true hle
    rw [wrL_eq] at he
    have hla := ra.length
    have hlen : ARGS.size = args.length := by simpa using hla
    have st : St E (wrLs args big 0) h nxt fn.ntmps { tmps := ARGS ++ Array.replicate (fn.ntmps - ARGS.size) undef, defers := [] } w := by
      refine ⟨fun t => ?_, by simp; omega, rfl, hr⟩
      by_cases ht : t < args.length
      · have := wrLs_new args ARGS.toList ra t ht
        have e : (ARGS ++ Array.replicate (fn.ntmps - ARGS.size) undef).getD t undef = ARGS.toList.getD t undef := by
          have : t < ARGS.size := by omega
          simp [Array.getElem?_append, this]
        rw [e]; exact this
      · have : T.get .no (wrLs args big 0) t = .no := by
          have aux : ∀ (l : List AV) (c : T AV) (o : Nat), o + l.length ≤ t → T.get .no (wrLs l c o) t = T.get .no c t := by
            intro l
            induction l with
            | nil => intro c o _; rfl
            | cons v l ihl =>
              intro c o ho
              show T.get .no (wrLs l (T.set v c o) (o + 1)) t = _
              rw [ihl _ _ (by simp at ho; omega), T.get_set_ne _ _ _ _ _ (by simp at ho; omega)]
          rw [aux _ _ _ (by omega), big, T.get_full]
        rw [this]; simp [Rv]
    refine calls_of_wp hfn hb (wp_mono (evCode_ok ih hext (hdraw _ ih) c _ _ _ E _ h nxt _ w he st) ?_)
    intro e a' w' hl
    obtain ⟨E', regs', h', nxt', st', g', hk⟩ := hl
    have fin : evRes P fn regs' h' (fun v => k v h' nxt') = true → a'.defers = [] ∧ ∃ v, (results fn a'.tmps).run P w' = .ok v w' ∧ ∃ V, Ending.returned v = .returned V ∧ Gives E h w k V w' := by
      intro hk
      obtain ⟨v, V, h1, h2, h3⟩ := evRes_ok hk st'
      exact ⟨st'.defers, V, h1, V, rfl, v, h', nxt', E', h2, st'.heap, g', h3⟩
    cases e with
    | normal => exact fin hk
    | ret => exact fin hk
    | exit i => cases hk
    | goto l => exact hk.elim
    | panic l => exact hk.elim
    | outgrown => exact hk.elim
end Go.Proofs.YtejghjbbejeipaaGreat.Vx
