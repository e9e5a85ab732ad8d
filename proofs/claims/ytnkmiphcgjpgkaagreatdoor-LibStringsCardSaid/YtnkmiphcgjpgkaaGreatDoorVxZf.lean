/- What is given by value, without a pointer in it: its cells one by one, and the evaluator's symbols for them. No condition. -/
import Derived.Test.YtnkmiphcgjpgkaaGreatDoorVxZe
import Derived.ProofKit
import Derived.OpenShut
import Derived.Carry
import Derived.Laws.Cover2
import Derived.Lib.SmallJoins
set_option linter.unusedVariables false
set_option linter.unusedSimpArgs false
set_option linter.constructorNameAsVariable false
namespace Go.Proofs.YtnkmiphcgjpgkaaGreatDoor.Vx
open Go Go.RowKit Go.ChangeShapes Go.WideShapes Go.ChangeAt Go.Joins

/-- a cell of its kind -/
def leafOk (d : TypeDesc) (v : Value) : Prop := match d with
  | .bool => ∃ b, v = .bool b
  | .int k => ∃ n, v = .int k n ∧ (Lit.int k n).wf = true
  | .float .f64 => ∃ x, v = .float .f64 x ∧ (Lit.float .f64 x).wf = true
  | .string => ∃ s : ByteArray, v = .string s ∧ s.size ≤ maxLen
  | _ => False
def isLeaf (d : TypeDesc) : Bool := match d with
  | .bool => true
  | .int _ => true
  | .float .f64 => true
  | .string => true
  | _ => false
def All2 {α β : Type} (R : α → β → Prop) : List α → List β → Prop
  | [], [] => True
  | a :: as, b :: bs => R a b ∧ All2 R as bs
  | _, _ => False
theorem All2.length {α β : Type} {R : α → β → Prop} : ∀ {as : List α} {bs : List β}, All2 R as bs → as.length = bs.length
  | [], [], _ => rfl
  | _ :: _, _ :: _, h => by simp [h.2.length]
  | [], _ :: _, h => h.elim
  | _ :: _, [], h => h.elim
theorem All2.append {α β : Type} {R : α → β → Prop} : ∀ {as : List α} {bs : List β} {cs : List α} {ds : List β}, All2 R as bs → All2 R cs ds → All2 R (as ++ cs) (bs ++ ds)
  | [], [], _, _, _, k => k
  | _ :: _, _ :: _, _, _, h, k => ⟨h.1, h.2.append k⟩
  | [], _ :: _, _, _, h, _ => h.elim
  | _ :: _, [], _, _, h, _ => h.elim

/-- a type's cells, where each is of a plain kind -/
def flatF (P : Program) (go : TypeId → Option (List TypeDesc)) : List Field → Nat → Nat → Option (List TypeDesc)
  | [], off, n => if off = n then some [] else none
  | f :: fs, off, n => if f.offset = off then (match go f.type with
    | some l => if l.length = P.cellsOf f.type then (match flatF P go fs (off + P.cellsOf f.type) n with
      | some r => some (l ++ r)
      | none => none) else none
    | none => none) else none
def flatT (P : Program) : Nat → TypeId → Option (List TypeDesc)
  | 0, _ => none
  | d + 1, t => match P.underlying t with
    | some (.struct fs) => flatF P (flatT P d) fs.toList 0 (P.cellsOf t)
    | some d => if isLeaf d then some [d] else none
    | none => none

section
variable {H : Type} {enc : TypeId × Value → H} {P : Program} {w : World} {base : Nat} {spare : Nat → Bool} {held : Bool}
theorem trod_float64 {t : TypeId} {k : FloatKind} {fuel : Nat} {cs : List Value} {x : DataW H × List MemPlace} (ht : P.underlying t = some (.float k)) (h : DataW.trod enc P w base spare held fuel t cs = some x) : ∃ n, cs = [.float k n] ∧ x = (.lit (.float k n), []) ∧ (Lit.float k n).wf = true := by
  cases fuel with
  | zero => simp [DataW.trod] at h
  | succ n =>
    unfold DataW.trod at h
    rw [ht] at h
    split at h <;> simp_all
theorem flatF_ok {go : TypeId → Option (List TypeDesc)} {cs : List Value} {n : Nat} (hn : cs.length = n)
    (hgo : ∀ t l cs' fuel x, go t = some l → DataW.trod enc P w base spare held fuel t cs' = some x → All2 leafOk l cs' ∧ x.2 = []) :
    ∀ (fs : List Field) (off : Nat) (l : List TypeDesc) (xs : List (DataW H × List MemPlace)) (fuel : Nat), flatF P go fs off n = some l → xs.length = fs.length →
      (∀ (i : Nat) (f : Field), fs[i]? = some f → DataW.trod enc P w base spare held fuel f.type ((cs.drop f.offset).take (P.cellsOf f.type)) = xs[i]?) → All2 leafOk l (cs.drop off) ∧ xs.flatMap (·.2) = []
  | [], off, l, xs, fuel, h, hl, hf => by
    simp only [flatF] at h
    split at h <;> cases h
    rename_i ho
    have : xs = [] := List.length_eq_zero_iff.1 hl
    subst this
    have : cs.drop off = [] := List.drop_eq_nil_of_le (by omega)
    rw [this]; exact ⟨trivial, rfl⟩
  | f :: fs, off, l, xs, fuel, h, hl, hf => by
    simp only [flatF] at h
    split at h <;> try (cases h; done)
    rename_i ho
    split at h <;> try (cases h; done)
    rename_i l1 hg
    split at h <;> try (cases h; done)
    rename_i hlen
    split at h <;> try (cases h; done)
    rename_i r hr
    cases h
    obtain ⟨x0, xs, rfl⟩ : ∃ x0 xs', xs = x0 :: xs' := by
      cases xs with
      | nil => simp at hl
      | cons a b => exact ⟨a, b, rfl⟩
    have h0 := hf 0 f rfl
    simp only [List.getElem?_cons_zero] at h0
    obtain ⟨a1, a2⟩ := hgo _ _ _ _ _ hg h0
    obtain ⟨b1, b2⟩ := flatF_ok hn hgo fs (off + P.cellsOf f.type) r xs fuel hr (by simpa using hl) fun i f' hi => by
      have := hf (i + 1) f' (by simpa using hi)
      simpa using this
    rw [ho] at a1
    refine ⟨?_, by simp [a2, b2]⟩
    have e : cs.drop off = (cs.drop off).take (P.cellsOf f.type) ++ cs.drop (off + P.cellsOf f.type) := by
      rw [← List.drop_drop, List.take_append_drop]
    rw [e]
    exact a1.append b1
theorem flatT_ok : ∀ (d : Nat) (t : TypeId) (l : List TypeDesc) (cs : List Value) (fuel : Nat) (x : DataW H × List MemPlace), flatT P d t = some l → DataW.trod enc P w base spare held fuel t cs = some x → All2 leafOk l cs ∧ x.2 = []
  | 0, _, _, _, _, _, h, _ => by cases h
  | d + 1, t, l, cs, fuel, x, h, ht => by
    unfold flatT at h
    split at h
    · rename_i fs hu
      obtain ⟨xs, n, rfl, rfl, hl, hlen, hf⟩ := DataW.trod_struct hu ht
      have := flatF_ok (cs := cs) hl (fun t l cs' fuel x => flatT_ok d t l cs' fuel x) fs.toList 0 l xs n h (by simpa using hlen) fun i f hi => hf i f (by simpa using hi)
      simpa using this
    · rename_i dd _ hu
      split at h <;> cases h
      rename_i hd
      cases dd <;> simp only [isLeaf, Bool.false_eq_true] at hd
      · obtain ⟨b, rfl, rfl⟩ := DataW.trod_bool hu ht
        exact ⟨⟨⟨b, rfl⟩, trivial⟩, rfl⟩
      · obtain ⟨n, rfl, rfl, hw⟩ := DataW.trod_int hu ht
        exact ⟨⟨⟨n, rfl, hw⟩, trivial⟩, rfl⟩
      · rename_i k _
        cases k
        · cases hd
        obtain ⟨n, rfl, rfl, hw⟩ := trod_float64 hu ht
        exact ⟨⟨⟨n, rfl, hw⟩, trivial⟩, rfl⟩
      · obtain ⟨s, rfl, rfl, hw⟩ := DataW.trod_string hu ht
        exact ⟨⟨⟨s, rfl, hw⟩, trivial⟩, rfl⟩
    · cases h
/-- a struct by value, opened -/
theorem open_flat {d : Nat} {t : TypeId} {fs : Array Field} {l : List TypeDesc} {r : _root_.Go.Reach} {b0 : Nat} {v : Value} {y : DataW H} {p : List MemPlace} (hu : P.underlying t = some (.struct fs)) (hl : flatT P d t = some l) (hv : Value.okWide P w r b0 t v)
    (h : DataW.Trod enc P w base spare held t v y p) : ∃ cs : List Value, v = .agg cs.toArray ∧ All2 leafOk l cs ∧ p = [] := by
  obtain ⟨cs, rfl, hsz⟩ := okWide_struct hu hv
  obtain ⟨fuel, hf⟩ := h
  obtain ⟨h1, h2⟩ := flatT_ok d t l _ fuel _ hl hf
  refine ⟨cs.toList, rfl, ?_, h2⟩
  simpa [Value.cells] using h1
end

/-! ### Symbols for them -/
def symOf (v : Value) : Value := match v with
  | .bool b => .int .u8 (if b then 1 else 0)
  | v => v
noncomputable def leafAV (d : TypeDesc) (n : Nat) : AV := match d with
  | .bool => .x .b (.cmp .eql (.sy n) (.li .u8 1))
  | .int k => .x (.i k) (.sy n)
  | .float _ => .x .f (.sy n)
  | _ => .x .s (.sy n)
noncomputable def leafAVs : List TypeDesc → Nat → List AV
  | [], _ => []
  | d :: ds, n => leafAV d n :: leafAVs ds (n + 1)

theorem wf_int {k : IntKind} {n : Int} (h : (Lit.int k n).wf = true) : k.min ≤ n ∧ n ≤ k.max := by
  simpa [Lit.wf] using h
theorem leaf_rv {Vs : List Value} {d : TypeDesc} {v : Value} (j : Nat) (hj : Vs[j]? = some (symOf v)) (h : leafOk d v) : Rv (symEV [] 1 Vs) (leafAV d (1 + j)) v := by
  cases d <;> simp only [leafOk] at h
  case bool =>
    obtain ⟨b, rfl⟩ := h
    have hd := den_sym (gl := []) (n0 := 1) j hj (sok_i _ _)
    show Rv _ (.x .b (.cmp .eql (.sy (1 + j)) (.li .u8 1))) _
    rw [Rv]
    refine ⟨?_, _, rfl⟩
    rw [fact_eq hd]
    cases b <;> rfl
  case int k =>
    obtain ⟨n, rfl, hw⟩ := h
    exact rv_sym (s := .i k) j hj (sok_i _ _) ⟨_, rfl, wf_int hw⟩
  case float k =>
    cases k
    · exact h.elim
    obtain ⟨x, rfl, hw⟩ := h
    exact rv_sym (s := .f) j hj (sok_f _) ⟨_, rfl, wf_f64 hw⟩
  case string =>
    obtain ⟨s, rfl, hw⟩ := h
    exact rv_sym (s := .s) j hj (sok_s _) ⟨s, rfl, by have : s.size ≤ 9223372036854775807 := hw; omega⟩
theorem leaves_rv {Vs : List Value} : ∀ {ds : List TypeDesc} {vs : List Value} (j : Nat), (∀ i v, vs[i]? = some v → Vs[j + i]? = some (symOf v)) → All2 leafOk ds vs → RvL (symEV [] 1 Vs) (leafAVs ds (1 + j)) vs
  | [], [], _, _, _ => rvl_nil
  | d :: ds, v :: vs, j, h, k => by
    refine rvl_cons (leaf_rv j (h 0 v rfl) k.1) ?_
    have := leaves_rv (ds := ds) (vs := vs) (j + 1) (fun i v hi => by have := h (i + 1) v (by simpa using hi); rw [← this]; congr 1; omega) k.2
    rw [show 1 + j + 1 = 1 + (j + 1) from by omega]
    exact this
  | [], _ :: _, _, _, k => k.elim
  | _ :: _, [], _, _, k => k.elim
end Go.Proofs.YtnkmiphcgjpgkaaGreatDoor.Vx
