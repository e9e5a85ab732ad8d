/- A function with one loop, whose heads are a graph of states, and from which the loop is left for one of several states: what is answered. New rows of which nothing but the cells' kinds is told. No condition. -/
import Derived.Test.YtaecedlhiclkdaaGreatDoorVxZr
set_option linter.unusedVariables false
set_option linter.unusedSimpArgs false
set_option linter.constructorNameAsVariable false
namespace Go.Proofs.YtaecedlhiclkdaaGreatDoor.Vx
open Go
set_option maxRecDepth 100000

noncomputable def evCodeX (P : Program) (call : CallF) (ext : Exts) (draw : DrawF) (nt : Nat) (W : Nat → S → S) (J : S → (Nat → S) → S → S) (c : Code) : S → (Nat → S) → S → S :=
  Code.rec (motive := fun _ => S → (Nat → S) → S → S)
    (fun kn _ _ => kn)
    (fun id ops d kn _ _ => W id fun regs h nxt => bc d (draw ops nt noK kn regs h nxt) (evOps P call ext nt ops ops.toList noK kn regs h nxt))
    (fun _ _ iha ihb kn kx kr => iha (ihb kn kx kr) kx kr)
    (fun x _ _ iht ihe kn kx kr regs h nxt => opd regs x fun v => condK v h (fun h => iht kn kx kr regs h nxt) (fun h => ihe kn kx kr regs h nxt))
    (fun id _ ih kn kx kr => ih kn (blkK id kn kx) kr)
    (fun _ _ kn kx kr => J kn kx kr)
    (fun _ _ _ _ _ _ _ _ _ _ _ _ => false)
    (fun id _ kx _ => kx (Nat.mul 2 (Nat.succ id)))
    (fun _ _ _ _ _ _ _ _ => false)
    (fun _ _ _ _ _ _ _ => false)
    (fun _ _ _ _ _ _ _ => false)
    (fun _ _ kr => kr)
    (fun _ _ _ _ _ _ _ => false) c


/-- a region may be cut ahead: what is known is told anew -/
def CutOK (nt : Nat) (W : Nat → S → S) (B : Nat) (w0 : World) (E0 : Env) (F : Nat) : Prop := ∀ (id : Nat) (S0 : S) (E : Env) (regs : Regs) (h : Heap) (nxt : Nat) (a : Act) (w : World), W id S0 regs h nxt = true → St [] E regs h nxt nt a w → Calm B w0 E h w → E0.le E → flr h = F →
  ∃ E' regs' h' nxt', St [] E' regs' h' nxt' nt a w ∧ Calm B w0 E' h' w ∧ E0.le E' ∧ flr h' = F ∧ S0 regs' h' nxt' = true
theorem cut_none {nt B : Nat} {w0 : World} {E0 : Env} {F : Nat} : CutOK nt (fun _ S0 => S0) B w0 E0 F := fun _ _ E regs h nxt a w he st cm hE hF => ⟨E, regs, h, nxt, st, cm, hE, hF, he⟩
/-- ahead of region c: one of the states that are told -/
noncomputable def cutX (F m c : Nat) (gw : GWk) (canX : Nat → Can) (needX : Nat → Facts) (hX : Nat → Heap) (xs : List Nat) : Nat → S → S := fun id S0 => bcS (Nat.beq id c) (fun regs h nxt => bc (atAnyG F m gw canX needX xs regs h nxt) (List.rec (motive := fun _ => Bool) true (fun x _ ih => bc (rowsK (canX x).R (hX x) fun h => S0 (regsOf (canX x).rs) h (canX x).N) ih false) xs) false) S0
theorem cutAll_ok {canX : Nat → Can} {hX : Nat → Heap} {S0 : S} : ∀ {xs : List Nat}, List.rec (motive := fun _ => Bool) true (fun x _ ih => bc (rowsK (canX x).R (hX x) fun h => S0 (regsOf (canX x).rs) h (canX x).N) ih false) xs = true → ∀ x ∈ xs, S0 (regsOf (canX x).rs) (rowsH (canX x).R (hX x)) (canX x).N = true
  | [], _, x, hx => by cases hx
  | y :: xs, he, x, hx => by
    have he : bc (rowsK (canX y).R (hX y) fun h => S0 (regsOf (canX y).rs) h (canX y).N) (List.rec (motive := fun _ => Bool) true (fun x _ ih => bc (rowsK (canX x).R (hX x) fun h => S0 (regsOf (canX x).rs) h (canX x).N) ih false) xs) false = true := he
    obtain ⟨h1, h2⟩ := bc_and he
    rw [rowsK_eq] at h1
    rcases List.mem_cons.1 hx with rfl | hx
    · exact h1
    · exact cutAll_ok h2 x hx
theorem cut_ok {nt F m c : Nat} {gw : GWk} {canX : Nat → Can} {needX : Nat → Facts} {hX : Nat → Heap} {xs : List Nat} {w0 : World} {E0 : Env} (h1 : 1 ≤ F) (hgw : ∀ E, E0.le E → GWkOK E gw) (htx : ∀ x, Told E0 (needX x)) (baseX : ∀ x E, E0.le E → Holds E (needX x) → HR E0 (hX x) m w0 ∧ (∀ b, ¬ fp E0 (hX x) b) ∧ flr (hX x) = F) :
    CutOK nt (cutX F m c gw canX needX hX xs) w0.heap.size w0 E0 F := by
  intro id S0 E regs h nxt a w he st cm hE hF
  have he : bcS (Nat.beq id c) (fun regs h nxt => bc (atAnyG F m gw canX needX xs regs h nxt) (List.rec (motive := fun _ => Bool) true (fun x _ ih => bc (rowsK (canX x).R (hX x) fun h => S0 (regsOf (canX x).rs) h (canX x).N) ih false) xs) false) S0 regs h nxt = true := he
  rw [bcS_eq] at he
  rcases bc_or he with ⟨_, he⟩ | ⟨_, he⟩
  · obtain ⟨e1, e2⟩ := bc_and he
    obtain ⟨x, hx, e1⟩ := atAny_ok e1
    have wok := fltG_ok (factsOf_ok st.heap) (hgw E hE)
    obtain ⟨t1, t2, t3⟩ := headG h1 wok ((htx x).mono hE) (baseX x E hE) e1 st cm hE hF
    exact ⟨E, _, _, _, t1, t2, hE, t3, cutAll_ok e2 x hx⟩
  · exact ⟨E, regs, h, nxt, st, cm, hE, hF, he⟩
theorem evCodeX_ok {P : Program} {call : CallF} {ext : Exts} {draw : DrawF} (hcall : CallOK P call) (hext : ExtOK P ext) (hdraw : DrawOK P draw) {nt : Nat} {W : Nat → S → S} {J : S → (Nat → S) → S → S} {B : Nat} {w0 : World} {E0 : Env} {F : Nat} {kr : S} (hW : CutOK nt W B w0 E0 F) :
    ∀ (c : Code), (∀ l ∈ loopsOf c, ∀ (kn : S) (kx : Nat → S) (E : Env) (regs : Regs) (h : Heap) (nxt : Nat) (a : Act) (w : World), J kn kx kr regs h nxt = true → St [] E regs h nxt nt a w → Calm B w0 E h w → E0.le E → flr h = F → (Code.loop l).wp P (LeavesB B w0 E0 F nt kn kx kr) a w) →
      ∀ (kn : S) (kx : Nat → S) (E : Env) (regs : Regs) (h : Heap) (nxt : Nat) (a : Act) (w : World), evCodeX P call ext draw nt W J c kn kx kr regs h nxt = true → St [] E regs h nxt nt a w → Calm B w0 E h w → E0.le E → flr h = F →
        c.wp P (LeavesB B w0 E0 F nt kn kx kr) a w := by
  intro c
  induction c with
  | skip => exact fun _ kn kx E regs h nxt a w he st cm hE hF => wp_skip ⟨E, regs, h, nxt, st, cm, hE, hF, he⟩
  | region id ops d =>
    intro _ kn kx E1 regs1 h1 nxt1 a w he st1 cm1 hE1 hF1
    obtain ⟨E, regs, h, nxt, st, cm, hE, hF, he⟩ := hW id _ E1 regs1 h1 nxt1 a w he st1 cm1 hE1 hF1
    have toB : ∀ e a' w', Leaves [] E h w nt kn (fun _ => noK) noK e a' w' → LeavesB B w0 E0 F nt kn kx kr e a' w' := fun e a' w' l => by
      obtain ⟨E', regs', h', nxt', s1, s2, s3, s4, hk⟩ := Leaves.toB (fun _ _ _ => rfl) (fun _ _ _ _ => rfl) cm hE hF l
      refine ⟨E', regs', h', nxt', s1, s2, s3, s4, ?_⟩
      cases e with
      | normal => exact hk
      | exit i => cases hk
      | ret => cases hk
      | goto l => exact hk.elim
      | panic l => exact hk.elim
      | outgrown => exact hk.elim
    rcases bc_or he with ⟨rfl, he⟩ | ⟨rfl, he⟩
    · exact wp_mono (hdraw [] id ops nt kn (fun _ => noK) noK E regs h nxt a w he st) toB
    · have := evOps_ok hcall hext (kx := fun _ => noK) (kr := noK) ops.toList 0 (by simp) he st
      rw [← List.range_eq_range', Array.length_toList] at this
      exact wp_mono (wp_region this) toB
  | seq x y ihx ihy =>
    intro hJ kn kx E regs h nxt a w he st cm hE hF
    refine wp_seq (wp_mono (ihx (fun l hl => hJ l (List.mem_append_left _ hl)) (evCodeX P call ext draw nt W J y kn kx kr) kx E regs h nxt a w he st cm hE hF) ?_)
    intro e a' w' hl
    cases e with
    | normal =>
      obtain ⟨E', regs', h', nxt', st', cm', hE', hF', hk⟩ := hl
      exact ihy (fun l hl => hJ l (List.mem_append_right _ hl)) kn kx E' regs' h' nxt' a' w' hk st' cm' hE' hF'
    | _ => exact hl
  | cond x t e iht ihe =>
    intro hJ kn kx E regs h nxt a w he st cm hE hF
    have he : opd regs x (fun v => condK v h (fun h => evCodeX P call ext draw nt W J t kn kx kr regs h nxt) (fun h => evCodeX P call ext draw nt W J e kn kx kr regs h nxt)) = true := he
    obtain ⟨v, rv, he⟩ := opd_ok he st.regs
    obtain ⟨b, h1, hv, hr1, fk, he⟩ := condK_ok he rv st.heap
    have cm1 := cm.goes (w' := w) (E' := E) fk.goes
    have hF1 : flr h1 = F := fk.flr.trans hF
    refine wp_cond hv ?_
    rcases he with ⟨rfl, he⟩ | ⟨rfl, he⟩
    · exact iht (fun l hl => hJ l (List.mem_append_left _ hl)) kn kx E regs h1 nxt a w he ⟨st.regs, st.size, st.defers, hr1⟩ cm1 hE hF1
    · exact ihe (fun l hl => hJ l (List.mem_append_right _ hl)) kn kx E regs h1 nxt a w he ⟨st.regs, st.size, st.defers, hr1⟩ cm1 hE hF1
  | block id c ih =>
    intro hJ kn kx E regs h nxt a w he st cm hE hF
    refine wp_block (wp_mono (ih hJ kn (blkK id kn kx) E regs h nxt a w he st cm hE hF) ?_)
    intro e a' w' hl
    cases e with
    | exit i =>
      obtain ⟨E', regs', h', nxt', st', cm', hE', hF', hk⟩ := hl
      simp only [Exit.inBlock]
      have hk : bcS (Nat.beq (Nat.mul 2 (Nat.succ i)) (Nat.mul 2 (Nat.succ id))) kn (kx (Nat.mul 2 (Nat.succ i))) regs' h' nxt' = true := hk
      rw [bcS_eq] at hk
      rcases bc_or hk with ⟨hi, hk⟩ | ⟨hi, hk⟩
      · have hi : 2 * (i + 1) = 2 * (id + 1) := Nat.eq_of_beq_eq_true hi
        rw [if_pos (by omega)]
        exact ⟨E', regs', h', nxt', st', cm', hE', hF', hk⟩
      · have hi : 2 * (i + 1) ≠ 2 * (id + 1) := Nat.ne_of_beq_eq_false hi
        rw [if_neg (by omega)]
        exact ⟨E', regs', h', nxt', st', cm', hE', hF', hk⟩
    | goto l => obtain ⟨_, _, _, _, _, _, _, _, hk⟩ := hl; exact hk.elim
    | panic l => obtain ⟨_, _, _, _, _, _, _, _, hk⟩ := hl; exact hk.elim
    | outgrown => obtain ⟨_, _, _, _, _, _, _, _, hk⟩ := hl; exact hk.elim
    | _ => exact hl
  | loop c ih => exact fun hJ kn kx E regs h nxt a w he st cm hE hF => hJ c (by simp [loopsOf]) kn kx E regs h nxt a w he st cm hE hF
  | exit id => exact fun _ kn kx E regs h nxt a w he st cm hE hF => wp_exit ⟨E, regs, h, nxt, st, cm, hE, hF, he⟩
  | ret => exact fun _ kn kx E regs h nxt a w he st cm hE hF => wp_ret ⟨E, regs, h, nxt, st, cm, hE, hF, he⟩
  | _ => intro _ kn kx E regs h nxt a w he; cases he


/-- a round, run by itself; it may leave the loop -/
noncomputable def roundX (P : Program) (call : CallF) (ext : Exts) (draw : DrawF) (nt : Nat) (cl : Code) (h0 : Heap) (c : Can) (kn : S) (kx : Nat → S) (kr : S) : Bool :=
  rowsK c.R h0 fun h => evCodeJ P call ext draw nt noK cl kn kx kr (regsOf c.rs) h c.N
noncomputable def outK (id : Nat) (k : S) : Nat → S := fun i => bcS (Nat.beq i (Nat.mul 2 (Nat.succ id))) k noK
/-- what is behind the loop, from each of the states for which it is left -/
noncomputable def allX (canX : Nat → Can) (hX : Nat → Heap) (id : Nat) (kx : Nat → S) (xs : List Nat) : Bool := List.rec (motive := fun _ => Bool) true (fun x _ ih => bc (rowsK (canX x).R (hX x) fun h => kx (Nat.mul 2 (Nat.succ id)) (regsOf (canX x).rs) h (canX x).N) ih false) xs
theorem allX_ok {canX : Nat → Can} {hX : Nat → Heap} {id : Nat} {kx : Nat → S} : ∀ {xs : List Nat}, allX canX hX id kx xs = true → ∀ x ∈ xs, rowsK (canX x).R (hX x) (fun h => kx (Nat.mul 2 (Nat.succ id)) (regsOf (canX x).rs) h (canX x).N) = true
  | [], _, x, hx => by cases hx
  | y :: xs, he, x, hx => by
    have he : bc (rowsK (canX y).R (hX y) fun h => kx (Nat.mul 2 (Nat.succ id)) (regsOf (canX y).rs) h (canX y).N) (allX canX hX id kx xs) false = true := he
    obtain ⟨h1, h2⟩ := bc_and he
    rcases List.mem_cons.1 hx with rfl | hx
    · exact h1
    · exact allX_ok h2 x hx
noncomputable def headX (F m : Nat) (cans : Nat → Can) (needs : Nat → Facts) (starts xs : List Nat) (canX : Nat → Can) (hX : Nat → Heap) (id : Nat) : S → (Nat → S) → S → S := fun _ kx _ regs h nxt =>
  bc (atAny F m [] cans needs starts regs h nxt) (allX canX hX id kx xs) false
noncomputable def retF (P : Program) (fn : Func) (fin : AV → Heap → Bool) : S := fun regs h nxt => evRes P fn regs h fun v => fin v h
/-- the loop: states go up, `K` is above them all -/
theorem loopG3_ok {P : Program} {calls : Nat → CallF} {ext : Exts} {draws : Nat → DrawF} (hcall : ∀ s, CallOK P (calls s)) (hext : ExtOK P ext) (hdraw : ∀ s, DrawOK P (draws s)) {nt : Nat} {E0 : Env} {h0 : Nat → Heap} {m F K : Nat} {w0 : World} {kr : S} {cl : Code}
    {cans : Nat → Can} {needs : Nat → Facts} {nexts : Nat → List Nat} {cans' : Nat → Can} {gws : Nat → GWk} {xs : List Nat} {canX canX' : Nat → Can} {needX : Nat → Facts} {hX : Nat → Heap} {id : Nat}
    (h1 : 1 ≤ F) (base : ∀ s E, E0.le E → Holds E (needs s) → HR E0 (h0 s) m w0 ∧ (∀ b, ¬ fp E0 (h0 s) b) ∧ flr (h0 s) = F) (hwk : ∀ s E, E0.le E → GWkOK E (gws s)) (htd : ∀ s, Told E0 (needs s)) (hcan : ∀ s E, E0.le E → Holds E (needs s) → (cans' s).R = (cans s).R ∧ (cans' s).N = (cans s).N ∧ ∀ t V, Rv E (T.get .no (regsOf (cans s).rs) t) V → Rv E (T.get .no (regsOf (cans' s).rs) t) V) (htx : ∀ x, Told E0 (needX x)) (hcx : ∀ x E, E0.le E → Holds E (needX x) → (canX' x).R = (canX x).R ∧ (canX' x).N = (canX x).N ∧ ∀ t V, Rv E (T.get .no (regsOf (canX x).rs) t) V → Rv E (T.get .no (regsOf (canX' x).rs) t) V) (baseX : ∀ x E, E0.le E → Holds E (needX x) → HR E0 (hX x) m w0 ∧ (∀ b, ¬ fp E0 (hX x) b) ∧ flr (hX x) = F) (hn : loopsOf cl = [])
    (hup : ∀ s, s < K → ∀ t ∈ nexts s, s < t ∧ t < K)
    (hit : ∀ s, s < K → (∃ E, E0.le E ∧ Holds E (needs s)) → roundX P (calls s) ext (draws s) nt cl (h0 s) (cans' s) (atAnyG F m (gws s) cans needs (nexts s)) (outK id (atAnyG F m (gws s) canX needX xs)) kr = true)
    (kn : S) (kx : Nat → S) (hx : ∀ x ∈ xs, rowsK (canX' x).R (hX x) (fun h => kx (Nat.mul 2 (Nat.succ id)) (regsOf (canX' x).rs) h (canX' x).N) = true) {wk : Wk} (s : Nat) (hs : s < K) (E : Env) (regs : Regs) (h : Heap) (nxt : Nat) (a : Act) (w : World) (ok : WkOK E wk) (he : atG F m wk (cans s) (needs s) regs h nxt = true) (st : St [] E regs h nxt nt a w) (cm : Calm w0.heap.size w0 E h w) (hE : E0.le E) (hF : flr h = F) :
    (Code.loop cl).wp P (LeavesB w0.heap.size w0 E0 F nt kn kx kr) a w := by
  refine wp_loop_rounds (K + 1) ?_
  have key : ∀ (n s : Nat), s < K → K ≤ s + n → ∀ (wk : Wk) (E : Env) (regs : Regs) (h : Heap) (nxt : Nat) (a : Act) (w : World), WkOK E wk → atG F m wk (cans s) (needs s) regs h nxt = true → St [] E regs h nxt nt a w → Calm w0.heap.size w0 E h w → E0.le E → flr h = F →
      Code.rounds P cl (LeavesB w0.heap.size w0 E0 F nt kn kx kr) n a w := by
    intro n
    induction n with
    | zero => intro s hs hk; omega
    | succ n ih =>
      intro s hs hk wk E regs h nxt a w ok he st cm hE hF
      have need : Holds E (needs s) := by
        obtain ⟨_, e⟩ := bc_and he
        obtain ⟨_, e⟩ := bc_and e
        obtain ⟨_, e⟩ := bc_and e
        obtain ⟨_, e⟩ := bc_and e
        obtain ⟨_, e⟩ := bc_and e
        exact hasFs_ok (factsOf_ok st.heap) ((htd s).mono hE) e
      obtain ⟨st1, cm1, hF1⟩ := headG h1 ok ((htd s).mono hE) (base s E hE) he st cm hE hF
      obtain ⟨q1, q2, q3⟩ := hcan s E hE need
      rw [← q1, ← q2] at st1
      rw [← q1] at cm1 hF1
      have st1 : St [] E (regsOf (cans' s).rs) (rowsH (cans' s).R (h0 s)) (cans' s).N nt a w := ⟨fun t => q3 t _ (st1.regs t), st1.size, st1.defers, st1.heap⟩
      have hl := hit s hs ⟨E, hE, need⟩
      unfold roundX at hl
      rw [rowsK_eq] at hl
      rw [rounds_succ]
      refine wp_mono (evCodeJ_ok (hcall s) hext (hdraw s) cl (fun l hl => by rw [hn] at hl; cases hl) _ _ E _ _ _ a w hl st1 cm1 hE hF1) ?_
      intro e a' w' hh
      obtain ⟨E', regs', h', nxt', s1, s2, s3, s4, hk'⟩ := hh
      cases e with
      | normal =>
        obtain ⟨t, ht, hk'⟩ := atAny_ok hk'
        obtain ⟨u1, u2⟩ := hup s hs t ht
        exact ih t u2 (by omega) (fltG (factsOf h') (gws s)) E' regs' h' nxt' a' w' (fltG_ok (factsOf_ok s1.heap) (hwk s E' s3)) hk' s1 s2 s3 s4
      | exit i =>
        have hq : outK id (atAnyG F m (gws s) canX needX xs) (Nat.mul 2 (Nat.succ i)) regs' h' nxt' = true := hk'
        unfold outK at hq
        rw [bcS_eq] at hq
        rcases bc_or hq with ⟨hi, hp⟩ | ⟨_, hp⟩
        · have hi : 2 * (i + 1) = 2 * (id + 1) := Nat.eq_of_beq_eq_true hi
          obtain rfl : i = id := by omega
          obtain ⟨x, hx1, hx2⟩ := atAny_ok hp
          have wok := fltG_ok (factsOf_ok s1.heap) (hwk s E' s3)
          obtain ⟨t1, t2, t3⟩ := headG h1 wok ((htx x).mono s3) (baseX x E' s3) hx2 s1 s2 s3 s4
          have needx : Holds E' (needX x) := by
            obtain ⟨_, e⟩ := bc_and hx2
            obtain ⟨_, e⟩ := bc_and e
            obtain ⟨_, e⟩ := bc_and e
            obtain ⟨_, e⟩ := bc_and e
            obtain ⟨_, e⟩ := bc_and e
            exact hasFs_ok (factsOf_ok s1.heap) ((htx x).mono s3) e
          obtain ⟨q1, q2, q3⟩ := hcx x E' s3 needx
          rw [← q1, ← q2] at t1
          rw [← q1] at t2 t3
          have t1 : St [] E' (regsOf (canX' x).rs) (rowsH (canX' x).R (hX x)) (canX' x).N nt a' w' := ⟨fun t => q3 t _ (t1.regs t), t1.size, t1.defers, t1.heap⟩
          have := hx x hx1
          rw [rowsK_eq] at this
          exact ⟨E', _, _, _, t1, t2, s3, t3, this⟩
        · cases hp
      | ret => exact ⟨E', regs', h', nxt', s1, s2, s3, s4, hk'⟩
      | goto l => exact hk'.elim
      | panic l => exact hk'.elim
      | outgrown => exact hk'.elim
  exact key (K + 1) s hs (by omega) wk E regs h nxt a w ok he st cm hE hF

theorem lawG3 {W : Nat → S → S} {P : Program} {call : CallF} {calls : Nat → CallF} {ext : Exts} {draw : DrawF} {draws : Nat → DrawF} (hcall0 : CallOK P call) (hdraw0 : DrawOK P draw) (hcall : ∀ s, CallOK P (calls s)) (hext : ExtOK P ext) (hdraw : ∀ s, DrawOK P (draws s)) {g : FuncId} {fn : Func} {c cl : Code} (hfn : P.funcs[g]? = some fn) (hb : fn.body = some c) (hc : loopsOf c = [cl]) (hn : loopsOf cl = [])
    {args : List AV} {ARGS : Array Value} {E0 : Env} {h0 : Heap} {h0s : Nat → Heap} {m F K : Nat} {w0 : World} {cans : Nat → Can} {needs : Nat → Facts} {starts : List Nat} {nexts : Nat → List Nat} {cans' : Nat → Can} {gws : Nat → GWk} {xs : List Nat} {canX canX' : Nat → Can} {needX : Nat → Facts} {hX : Nat → Heap} {id : Nat} {fin : AV → Heap → Bool} (hW : CutOK fn.ntmps W w0.heap.size w0 E0 F) (ra : RvL E0 args ARGS.toList) (hle : args.length ≤ fn.ntmps)
    (h1 : 1 ≤ F) (hr0 : HR E0 h0 m w0) (nf0 : ∀ k, ¬ fp E0 h0 k) (hF0 : flr h0 = F)
    (base : ∀ s E, E0.le E → Holds E (needs s) → HR E0 (h0s s) m w0 ∧ (∀ b, ¬ fp E0 (h0s s) b) ∧ flr (h0s s) = F) (hwk : ∀ s E, E0.le E → GWkOK E (gws s)) (htd : ∀ s, Told E0 (needs s)) (hcan : ∀ s E, E0.le E → Holds E (needs s) → (cans' s).R = (cans s).R ∧ (cans' s).N = (cans s).N ∧ ∀ t V, Rv E (T.get .no (regsOf (cans s).rs) t) V → Rv E (T.get .no (regsOf (cans' s).rs) t) V) (htx : ∀ x, Told E0 (needX x)) (hcx : ∀ x E, E0.le E → Holds E (needX x) → (canX' x).R = (canX x).R ∧ (canX' x).N = (canX x).N ∧ ∀ t V, Rv E (T.get .no (regsOf (canX x).rs) t) V → Rv E (T.get .no (regsOf (canX' x).rs) t) V) (baseX : ∀ x E, E0.le E → Holds E (needX x) → HR E0 (hX x) m w0 ∧ (∀ b, ¬ fp E0 (hX x) b) ∧ flr (hX x) = F) (hst : ∀ s ∈ starts, s < K) (hup : ∀ s, s < K → ∀ t ∈ nexts s, s < t ∧ t < K)
    (hfirst : evCodeX P call ext draw fn.ntmps W (headX F m cans needs starts xs canX' hX id) c (retF P fn fin) (fun _ => noK) (retF P fn fin) (wrLs args big 0) h0 m = true)
    (hit : ∀ s, s < K → (∃ E, E0.le E ∧ Holds E (needs s)) → roundX P (calls s) ext (draws s) fn.ntmps cl (h0s s) (cans' s) (atAnyG F m (gws s) cans needs (nexts s)) (outK id (atAnyG F m (gws s) canX needX xs)) (retF P fn fin) = true) :
    Calls P g ARGS w0 fun e w' => (∃ V v h' E', e = .returned V ∧ Rv E' v V ∧ Holds E' (factsOf h') ∧ E0.le E' ∧ fin v h' = true) ∧ RowKit.Below w0.heap.size w0 w' := by
  have st := st_enter ra hle hr0
  have cm0 : Calm w0.heap.size w0 E0 h0 w0 := ⟨RowKit.Below.refl _ _, Nat.le_refl _, fun k _ => nf0 k⟩
  refine calls_of_wp hfn hb (wp_mono (evCodeX_ok hcall0 hext hdraw0 (B := w0.heap.size) (w0 := w0) (E0 := E0) (F := F) (kr := retF P fn fin) hW c (fun l hl => ?_) _ _ E0 _ h0 m _ w0 hfirst st cm0 (Env.le_refl _) hF0) ?_)
  · rw [hc] at hl
    obtain rfl : l = cl := by simpa using hl
    intro kn kx E regs h nxt a w he st cm hE hF
    obtain ⟨he, hx⟩ := bc_and he
    obtain ⟨s, hs, he⟩ := atAny_ok he
    exact loopG3_ok hcall hext hdraw h1 base hwk htd hcan htx hcx baseX hn hup hit kn kx (allX_ok hx) s (hst s hs) E regs h nxt a w wk_nil he st cm hE hF
  · intro e a' w' hl
    obtain ⟨E', regs', h', nxt', st', cm', hE', hF', hk⟩ := hl
    have fin' : retF P fn fin regs' h' nxt' = true → a'.defers = [] ∧ ∃ v, (results fn a'.tmps).run P w' = .ok v w' ∧ ((∃ V v1 h' E', Ending.returned v = .returned V ∧ Rv E' v1 V ∧ Holds E' (factsOf h') ∧ E0.le E' ∧ fin v1 h' = true) ∧ RowKit.Below w0.heap.size w0 w') := by
      intro hk
      obtain ⟨v, V, h1, h2, h3⟩ := evRes_ok hk st'
      exact ⟨st'.defers, _, h1, ⟨V, v, h', E', rfl, h2, factsOf_ok st'.heap, hE', h3⟩, cm'.below⟩
    cases e with
    | normal => exact fin' hk
    | ret => exact fin' hk
    | exit i => cases hk
    | goto l => exact hk.elim
    | panic l => exact hk.elim
    | outgrown => exact hk.elim

/-! ### A new row, of which its cells' kinds are told -/
theorem HR.newRow {E : Env} {h : Heap} {n : Nat} {w w' : World} (hr : HR E h n w) (hb : RowKit.Below w.heap.size w w') {g b : Nat} {arr : Array Value} {el : TypeId} {fr : Nat × Nat} (hlo : w.heap.size ≤ b) (hblk : w'.heap[b]? = some (.cells arr el fr)) (hg : 1000000 ≤ g)
    (ht : TypB (Vx.addAt E n ⟨b, 0, 0⟩) n g ⟨b, 0, 0⟩ arr) : HR (Vx.addAt E n ⟨b, 0, 0⟩) (T.set (.glob g 0 big) h n) (n + 1) w' ∧ Goes E h w (Vx.addAt E n ⟨b, 0, 0⟩) (T.set (.glob g 0 big) h n) w' := by
  have fresh := hr.fresh n (Nat.le_refl _)
  have hr' := hr.below hb
  have hn0 : n ≠ 0 := by have := hr.pos; omega
  have z : T.get .gone (T.set (.glob g 0 big) h n) 0 = T.get .gone h 0 := T.get_set_ne _ _ _ _ _ (Ne.symm hn0)
  have fl : flr (T.set (.glob g 0 big) h n) = flr h := by unfold flr; rw [z]
  have at_n : Vx.addAt E n ⟨b, 0, 0⟩ n = some ⟨b, 0, 0⟩ := by unfold Vx.addAt; rw [if_pos rfl]
  have at_ne : ∀ i, i ≠ n → Vx.addAt E n ⟨b, 0, 0⟩ i = E i := fun i hi => by unfold Vx.addAt; rw [if_neg hi]
  have hbs : b < w'.heap.size := (Array.getElem?_eq_some_iff.1 hblk).1
  refine ⟨⟨fun i => ?_, fun i j L M hi hj hL hM e => ?_, fun i hi => ?_, fun i hi => ?_, fun i L hL => ?_, by omega, by rw [fl]; have := hr.flle; omega, by rw [z]; exact hr.zero⟩,
    ⟨le_addAt fresh, hb.size, fun k hk _ => hb.block k hk, ?_, fl, fun i hi => T.get_set_ne _ _ _ _ _ (by have := hr.flle; omega), hb.os, hb.output, hb.tape⟩⟩
  · by_cases e : i = n
    · subst e
      rcases T.get_set_eq AO.gone (.glob g 0 big) h i with q | q <;> rw [q]
      · exact ⟨⟨b, 0, 0⟩, arr, el, fr, at_n, fun hlt => absurd hlt (by omega), hblk, Nat.zero_le _, (fun j hj => absurd hj (Nat.not_lt_zero _)), ht⟩
      · trivial
    · rw [T.get_set_ne _ _ _ _ _ e]; exact (hr'.obj i).wide (le_addAt fresh)
  · by_cases ei : i = n <;> by_cases ej : j = n
    · rw [ei, ej]
    · subst ei
      rw [at_n] at hL; cases hL
      rw [at_ne j ej] at hM
      have := hr.inw j M hM
      have e : b = M.blk := e
      omega
    · subst ej
      rw [at_n] at hM; cases hM
      rw [at_ne i ei] at hL
      have := hr.inw i L hL
      have e : L.blk = b := e
      omega
    · rw [T.get_set_ne _ _ _ _ _ ei] at hi
      rw [T.get_set_ne _ _ _ _ _ ej] at hj
      rw [at_ne i ei] at hL
      rw [at_ne j ej] at hM
      exact hr.inj i j L M hi hj hL hM e
  · rw [T.get_set_ne _ _ _ _ _ (by omega)]; exact hr.lt i (by omega)
  · rw [at_ne i (by omega)]; exact hr.fresh i (by omega)
  · by_cases e : i = n
    · subst e
      rw [at_n] at hL; cases hL; exact hbs
    · rw [at_ne i e] at hL
      have := hr.inw i L hL
      have := hb.size
      omega
  · rintro k hk ⟨i, L, a1, a2, a3, a4⟩
    by_cases e : i = n
    · subst e
      rw [at_n] at a3; cases a3
      have a4 : b = k := a4
      omega
    · rw [T.get_set_ne _ _ _ _ _ e] at a2
      rw [at_ne i e] at a3
      rw [fl] at a1
      exact ⟨i, L, a1, a2, a3, a4⟩
theorem kTy_one {p j : Nat} {V : Value} (h : kTy p j V) : V.oneCell' = true := by
  unfold kTy at h
  split at h
  · split at h <;> (obtain ⟨_, rfl, _⟩ := h; rfl)
  · split at h <;> (obtain ⟨_, rfl, _⟩ := h; rfl)
/-- what is to be shown of slices.Clone at values (0), at keys (1) -/
def OfClone (P : Program) (g p : Nat) : Prop := (∀ (w : World), Calls P g #[.slice none 0 0] w fun e w' => e = .returned (.slice none 0 0) ∧ RowKit.Below w.heap.size w w') ∧
  ∀ (b off n c : Nat) (news : List Value) (w : World), news.length = n * perT p → n ≤ 1024 → (∀ j u, news[j]? = some u → w.cell? ⟨b, off + j, none⟩ = some u) → (∀ u ∈ news, u.oneCell' = true) →
    Calls P g #[.slice (some ⟨b, off, none⟩) n c] w fun e w' => (∃ (b' cap : Nat) (cur : Array Value) (el : TypeId), e = .returned (.slice (some ⟨b', 0, none⟩) n cap) ∧ w.heap.size ≤ b' ∧ w'.heap[b']? = some (.cells cur el (0, 0)) ∧ n ≤ cap ∧ cap ≤ maxLen ∧ cur.size = cap * perT p ∧ cur.toList.take (n * perT p) = news) ∧ RowKit.Below w.heap.size w w'
noncomputable def cloneC (p : Nat) : Ct := fun args h n k => match args with
  | [.sn] => k .sn h n
  | [.sx id _ (.sy S) _] => (match T.get .gone h id with
    | .glob g _ _ => bc (bc (Nat.beq g (Nat.add (Nat.add 2000000 (Nat.mul 2 S)) p)) (Nat.ble id 1999999) false) (bc (Nat.beq (decX (factsOf h) (.cmp .leq (.sy S) (.li .i64 1024))) 1)
        (T.setK (.glob g 0 big) h n fun h1 => forceN (Nat.add n 2) fun q => forceN (Nat.succ n) fun q1 => k (.sx n 0 (.sy S) (.sy q1)) h1 q) false) false
    | _ => false)
  | _ => false
theorem cloneC_ok {P : Program} {g p : Nat} (hp : p < 2) (H : OfClone P g p) : CtOK P g (cloneC p) := by
  intro args ARGS E h n w k he ra hr
  unfold cloneC at he
  split at he <;> try (cases he; done)
  · obtain ⟨V, hA, rx⟩ := ra.one
    have hA : ARGS = #[V] := by apply Array.ext'; simpa using hA
    subst hA
    rw [Rv] at rx
    subst rx
    refine (H.1 w).mono ?_
    rintro e w' ⟨rfl, hb⟩
    exact ⟨_, rfl, .sn, h, n, E, by rw [Rv], hr.below hb, Goes.below hb, he⟩
  · rename_i id m S cp
    split at he <;> try (cases he; done)
    rename_i g' m' c' hg
    obtain ⟨h1, he⟩ := bc_and he
    obtain ⟨h1, h2⟩ := bc_and h1
    obtain ⟨h3, he⟩ := bc_and he
    rw [T.setK_eq, forceN_eq, forceN_eq] at he
    have h1 : g' = 2000000 + 2 * S + p := Nat.eq_of_beq_eq_true h1
    have h2 := Nat.le_of_ble_eq_true h2
    obtain ⟨V, hA, rx⟩ := ra.one
    have hA : ARGS = #[V] := by apply Array.ext'; simpa using hA
    subst hA
    rw [Rv] at rx
    obtain ⟨L, N, C, eL, dN, dC, _, hN, rfl⟩ := rx
    have h3 := of_decide_eq_true ((decX_ok (factsOf_ok hr) (fact_le (k := .i64) (c := 1024) dN)).1 (Nat.eq_of_beq_eq_true h3))
    have ho := hr.obj id
    rw [hg] at ho
    obtain ⟨L', arr, el, fr, eL', _, hb, _, _, ht⟩ := ho
    rw [eL] at eL'; cases eL'
    obtain ⟨N', dN', hsz, hty⟩ := ht ⟨by omega, by omega⟩
    have eS : (g' - 2000000) / 2 = S := by omega
    have eP : g' % 2 = p := by omega
    rw [eS, dN] at dN'
    have eN : N' = N := by injection dN' with e; injection e with _ e; omega
    subst eN
    rw [eP] at hsz hty
    have cell : ∀ j, j < perT p * N' → w.cell? ⟨L.blk, L.base + j, none⟩ = some (arr.getD (L.base + j) undef) := fun j hj => by
      have hlt : L.base + j < arr.size := by omega
      simp only [World.cell?, hb]
      simp [hlt]
    refine (H.2 L.blk L.base N' C ((List.range (perT p * N')).map fun j => arr.getD (L.base + j) undef) w (by rw [List.length_map, List.length_range, Nat.mul_comm]) (by omega) (fun j u hj => ?_) (fun u hu => ?_)).mono ?_
    · rw [List.getElem?_map] at hj
      by_cases hlt : j < perT p * N'
      · rw [List.getElem?_range hlt] at hj
        cases hj
        exact cell j hlt
      · rw [List.getElem?_eq_none (by simp; omega)] at hj
        cases hj
    · obtain ⟨j, hj, rfl⟩ := List.mem_map.1 hu
      exact kTy_one (hty j (List.mem_range.1 hj))
    · rintro e w' ⟨⟨b', cap, cur, el', rfl, hlo, hblk, hcap, hmax, hcs, htake⟩, hbw⟩
      have fresh := hr.fresh n (Nat.le_refl _)
      have dS : den (Vx.addAt E n ⟨b', 0, 0⟩) (.sy S) = some (.int .i64 N') := den_mono (le_addAt fresh) _ _ dN
      have tb : TypB (Vx.addAt E n ⟨b', 0, 0⟩) n g' ⟨b', 0, 0⟩ cur := fun _ => by
        rw [eS, eP]
        refine ⟨N', dS, ?_, fun j hj => ?_⟩
        · show 0 + perT p * N' ≤ cur.size
          rw [hcs, Nat.mul_comm (perT p) N']
          have := Nat.mul_le_mul_right (perT p) hcap
          omega
        · have e1 : cur.getD (0 + j) undef = arr.getD (L.base + j) undef := by
            have h5 : (cur.toList.take (N' * perT p))[j]? = ((List.range (perT p * N')).map fun j => arr.getD (L.base + j) undef)[j]? := by rw [htake]
            rw [List.getElem?_take_of_lt (by rw [Nat.mul_comm]; exact hj), List.getElem?_map, List.getElem?_range hj] at h5
            rw [Nat.zero_add, Array.getD_eq_getD_getElem?, ← Array.getElem?_toList, h5]
            rfl
          show kTy p j (cur.getD (0 + j) undef)
          rw [e1]
          exact hty j hj
      obtain ⟨a1, a2⟩ := hr.newRow hbw (g := g') hlo hblk (by omega) tb
      have hs' : 0 < w'.heap.size := by have := (Array.getElem?_eq_some_iff.1 hblk).1; omega
      have hr2 := a1.add (.int .i64 cap) hs'
      refine ⟨_, rfl, .sx n 0 (.sy S) (.sy (n + 1)), T.set (.glob g' 0 big) h n, n + 2, addE (Vx.addAt E n ⟨b', 0, 0⟩) (n + 1) (.int .i64 cap), ?_, hr2, a2.trans (a1.goes_add _), he⟩
      rw [Rv]
      have le2 := a1.le_add (.int .i64 cap)
      exact ⟨⟨b', 0, 0⟩, N', cap, le2 _ _ (by unfold Vx.addAt; rw [if_pos rfl]), den_mono le2 _ _ dS, den_add (sok_i _ _), Nat.zero_le _, hN, rfl⟩
/-! ### A run over what is given: what is seen at the end, and that the symbols stand for the same -/
theorem closedXL {P : Program} {call : CallF} (hc : CallOK P call) {gl : List (Nat × List AV)} {n0 : Nat} {Vs : List Value} {fs : Facts} {g : FuncId} {args : List AV} {ARGS : Array Value} {nn : Nat} {fin : AV → Heap → Bool}
    (hn : gl.all (fun p => Nat.ble (p.1 + 2) n0) = true) (h1 : Nat.ble 1 n0 = true) (hbig : gl.all (fun p => Nat.ble (p.1 + 1) 1000000) = true)
    (hnn : n0 + Vs.length = nn) (hf : Holds (symEV gl n0 Vs) fs) (ra : RvL (symEV gl n0 Vs) args ARGS.toList) (hp : ∀ v h, fin (.pk v) h = false)
    (he : setF fs (startH gl n0) (fun h => call g args h nn (fun v h _ => fin v h)) = true) (w : World) (hs : 0 < w.heap.size)
    (hw : ∀ p ∈ gl, ∃ arr el fr, w.heap[p.1]? = some (.cells arr el fr) ∧ RvL (symEV gl n0 Vs) p.2 (arr.toList.take p.2.length)) :
    Calls P g ARGS w fun e w' => (∃ V v h' E', e = .returned V ∧ Rv E' v V ∧ Holds E' (factsOf h') ∧ (symEV gl n0 Vs).le E' ∧ fin v h' = true) ∧ RowKit.Below w.heap.size w w' := by
  subst hnn
  have hr := symG_ok hn h1 hbig hw (List.length_map _) (fun L hL => by obtain ⟨V, _, rfl⟩ := List.mem_map.1 hL; exact spot_blk V) hs
  obtain ⟨h1', he, hr1, fk⟩ := setF_ok he hr hf
  have z := startH_zero gl n0
  have fl : flr (startH gl n0) = n0 := by unfold flr; rw [z]
  have nofp : ∀ k, ¬ fp (symEV gl n0 Vs) h1' k := by
    rintro k ⟨i, L, a1, a2, _, _⟩
    rw [fk.flr, fl] at a1
    rw [fk.live] at a2
    cases i with
    | zero => rw [z] at a2; cases a2
    | succ i =>
      rcases startH_get gl n0 i with h | ⟨p, hp, e, h⟩
      · rw [h] at a2; cases a2
      · have := Nat.le_of_ble_eq_true (List.all_eq_true.1 hn p hp); omega
  refine (hc g args ARGS _ _ _ w _ he ra hr1).mono ?_
  rintro e w' (⟨V, rfl, v, h', nxt', E', rv, hr', gs, hk⟩ | ⟨V, rfl, v, h', nxt', E', rv, _, gs, hk⟩)
  · exact ⟨⟨V, v, h', E', rfl, rv, factsOf_ok hr', gs.ext, hk⟩, below_of gs nofp⟩
  · have hk : fin (.pk v) h' = true := hk
    rw [hp] at hk; cases hk

end Go.Proofs.YtaecedlhiclkdaaGreatDoor.Vx
