/- More operations of the evaluator: addresses, parts, slices, strings, aggregates, maps, comparisons. No condition. -/
import Derived.Test.YtbmekbpgoakkbaaGreatDoorVxB
import Derived.Laws.Append
set_option linter.unusedVariables false
set_option linter.unusedSimpArgs false
set_option linter.constructorNameAsVariable false
set_option linter.unusedSectionVars false
namespace Go.Proofs.YtbmekbpgoakkbaaGreatDoor.Vx
open Go

section
variable {E : Env} {h : Heap} {nxt : Nat} {w : World}

theorem RvL.drop : ∀ (n : Nat) {as : List AV} {vs : List Value}, RvL E as vs → RvL E (as.drop n) (vs.drop n)
  | 0, _, _, r => r
  | n + 1, [], _, r => by rw [RvL] at r; subst r; simpa using RvL.nil
  | n + 1, _ :: _, _, r => by
    rw [RvL] at r
    obtain ⟨_, _, rfl, _, r⟩ := r
    simpa using RvL.drop n r

theorem RvL.take : ∀ (n : Nat) {as : List AV} {vs : List Value}, RvL E as vs → RvL E (as.take n) (vs.take n)
  | 0, _, _, _ => by simpa using RvL.nil
  | n + 1, [], _, r => by rw [RvL] at r; subst r; simpa using RvL.nil
  | n + 1, _ :: _, _, r => by
    rw [RvL] at r
    obtain ⟨_, _, rfl, h, r⟩ := r
    exact .cons h (RvL.take n r)

noncomputable def forceL (l : List AV) (k : List AV → Bool) : Bool :=
  List.rec (motive := fun _ => (List AV → Bool) → Bool) (fun k => k []) (fun v _ ih k => force v fun v => ih fun t => k (v :: t)) l k
theorem forceL_eq : ∀ (l : List AV) (k : List AV → Bool), forceL l k = k l
  | [], _ => rfl
  | v :: l, k => by
    show force v (fun v => forceL l fun t => k (v :: t)) = _
    rw [force_eq, forceL_eq]

/-! #### addresses -/
noncomputable def evFieldAddr (P : Program) (s : TypeId) (x : AV) (f : Nat) (k : AV → Bool) : Bool := match x with
  | .p id off => match P.underlying s with
    | some (.struct fs) => match fs[f]? with
      | some fld => match P.info? fld.type with
        | some i => bc (Nat.ble 1 i.size) (forceN (Nat.add off fld.offset) fun o => k (.p id o)) false
        | none => false
      | none => false
    | _ => false
  | .pg id off => match P.underlying s with
    | some (.struct fs) => match fs[f]? with
      | some fld => match P.info? fld.type with
        | some i => bc (Nat.ble 1 i.size) (forceN (Nat.add off fld.offset) fun o => k (.pg id o)) false
        | none => false
      | none => false
    | _ => false
  | _ => false

theorem evFieldAddr_ok {P : Program} {s : TypeId} {x : AV} {X : Value} {f : Nat} {k : AV → Bool} (he : evFieldAddr P s x f k = true) (hx : Rv E x X) :
    ∃ v W, (Instr.fieldAt s X f).run P w = .ok W w ∧ Rv E v W ∧ k v = true := by
  unfold evFieldAddr at he
  split at he <;> try (cases he; done)
  · rename_i id off
    rw [Rv] at hx
    obtain ⟨L, hL, rfl⟩ := hx
    split at he <;> try (cases he; done)
    rename_i fs hu
    split at he <;> try (cases he; done)
    rename_i fld hf
    split at he <;> try (cases he; done)
    rename_i i hi
    obtain ⟨h1, h2⟩ := bc_and he
    have h1 := Nat.le_of_ble_eq_true h1
    rw [forceN_eq] at h2
    refine ⟨_, .pointer (some ⟨L.blk, L.base + (off + fld.offset), none⟩), ?_, by rw [Rv]; exact ⟨L, hL, rfl⟩, h2⟩
    have : i.size ≠ 0 := by omega
    simp [Instr.fieldAt, Instr.sureAddr, run_underlying' hu, hf, fieldPlace, run_sizeOf' hi, this, addr_add, Nat.add_assoc]
  · rename_i id off
    rw [Rv] at hx
    subst hx
    split at he <;> try (cases he; done)
    rename_i fs hu
    split at he <;> try (cases he; done)
    rename_i fld hf
    split at he <;> try (cases he; done)
    rename_i i hi
    obtain ⟨h1, h2⟩ := bc_and he
    have h1 := Nat.le_of_ble_eq_true h1
    rw [forceN_eq] at h2
    refine ⟨_, .pointer (some ⟨id, off + fld.offset, none⟩), ?_, by rw [Rv]; rfl, h2⟩
    have : i.size ≠ 0 := by omega
    simp [Instr.fieldAt, Instr.sureAddr, run_underlying' hu, hf, fieldPlace, run_sizeOf' hi, this, addr_add, Nat.add_assoc]

noncomputable def natOf (n : Int) (k : Nat → Bool) : Bool := Int.rec (motive := fun _ => Bool) (fun m => k m) (fun _ => false) n
theorem natOf_ok {n : Int} {k : Nat → Bool} (h : natOf n k = true) : ∃ m : Nat, n = (m : Int) ∧ k m = true := by
  cases n with
  | ofNat m => exact ⟨m, rfl, h⟩
  | negSucc m => cases h

noncomputable def evIndexAddr (P : Program) (t : TypeId) (x ix : AV) (k : AV → Bool) : Bool := match ix with
  | .i _ n => natOf n fun m => match P.underlying t with
    | some (.slice el) => match P.info? el with
      | some i => match x with
        | .sl id off len _ => bc (Nat.ble (m + 1) len) (forceN (Nat.add off (Nat.mul m i.size)) fun o => k (.p id o)) false
        | .so id off len _ => bc (Nat.ble (m + 1) len) (forceN (Nat.add off (Nat.mul m i.size)) fun o => k (.p id o)) false
        | .sx id low _ _ => bc (Nat.ble (m + 1) low) (forceN (Nat.mul m i.size) fun o => k (.p id o)) false
        | _ => false
      | none => false
    | some (.array len el) => match P.info? el with
      | some i => match x with
        | .p id off => bc (Nat.ble (m + 1) len) (forceN (Nat.add off (Nat.mul m i.size)) fun o => k (.p id o)) false
        | .pg id off => bc (Nat.ble (m + 1) len) (forceN (Nat.add off (Nat.mul m i.size)) fun o => k (.pg id o)) false
        | _ => false
      | none => false
    | _ => false
  | _ => false

theorem evIndexAddr_ok {P : Program} {t : TypeId} {x ix : AV} {X I : Value} {k : AV → Bool} (he : evIndexAddr P t x ix k = true) (hx : Rv E x X) (hI : Rv E ix I) :
    ∃ v W, (Instr.indexAt t X I).run P w = .ok W w ∧ Rv E v W ∧ k v = true := by
  unfold evIndexAddr at he
  split at he <;> try (cases he; done)
  rename_i kk n
  rw [Rv] at hI; subst hI
  obtain ⟨m, rfl, he⟩ := natOf_ok he
  split at he <;> try (cases he; done)
  · rename_i el hu
    split at he <;> try (cases he; done)
    rename_i i hi
    split at he <;> try (cases he; done)
    · rename_i id off len cap _
      obtain ⟨h1, h2⟩ := bc_and he
      have h1 := Nat.le_of_ble_eq_true h1
      rw [forceN_eq] at h2
      rw [Rv] at hx
      obtain ⟨L, hL, rfl⟩ := hx
      refine ⟨_, .pointer (some ⟨L.blk, L.base + (off + m * i.size), none⟩), ?_, by rw [Rv]; exact ⟨L, hL, rfl⟩, h2⟩
      have g2 : m < len := by omega
      simp [Instr.indexAt, asIntOf, run_underlying' hu, g2, run_sizeOf' hi, addr_add, Nat.add_assoc]
    · rename_i id off len used _
      obtain ⟨h1, h2⟩ := bc_and he
      have h1 := Nat.le_of_ble_eq_true h1
      rw [forceN_eq] at h2
      rw [Rv] at hx
      obtain ⟨L, hL, rfl, _⟩ := hx
      refine ⟨_, .pointer (some ⟨L.blk, L.base + (off + m * i.size), none⟩), ?_, by rw [Rv]; exact ⟨L, hL, rfl⟩, h2⟩
      have g2 : m < len := by omega
      simp [Instr.indexAt, asIntOf, run_underlying' hu, g2, run_sizeOf' hi, addr_add, Nat.add_assoc]
    · rename_i id low _ _ _
      obtain ⟨h1, h2⟩ := bc_and he
      have h1 := Nat.le_of_ble_eq_true h1
      rw [forceN_eq] at h2
      rw [Rv] at hx
      obtain ⟨L, n, c, hL, _, _, hn, _, rfl⟩ := hx
      refine ⟨_, .pointer (some ⟨L.blk, L.base + m * i.size, none⟩), ?_, by rw [Rv]; exact ⟨L, hL, rfl⟩, h2⟩
      have g2 : m < n := by omega
      simp [Instr.indexAt, asIntOf, run_underlying' hu, g2, run_sizeOf' hi, addr_add, Nat.add_assoc]
  · rename_i len el hu
    split at he <;> try (cases he; done)
    rename_i i hi
    split at he <;> try (cases he; done)
    · rename_i id off _
      obtain ⟨h1, h2⟩ := bc_and he
      have h1 := Nat.le_of_ble_eq_true h1
      rw [forceN_eq] at h2
      rw [Rv] at hx
      obtain ⟨L, hL, rfl⟩ := hx
      refine ⟨_, .pointer (some ⟨L.blk, L.base + (off + m * i.size), none⟩), ?_, by rw [Rv]; exact ⟨L, hL, rfl⟩, h2⟩
      have g2 : m < len := by omega
      simp [Instr.indexAt, asIntOf, run_underlying' hu, Instr.sureAddr, g2, run_sizeOf' hi, addr_add, Nat.add_assoc]
    · rename_i id off _
      obtain ⟨h1, h2⟩ := bc_and he
      have h1 := Nat.le_of_ble_eq_true h1
      rw [forceN_eq] at h2
      rw [Rv] at hx
      subst hx
      refine ⟨_, .pointer (some ⟨id, off + m * i.size, none⟩), ?_, by rw [Rv]; rfl, h2⟩
      have g2 : m < len := by omega
      simp [Instr.indexAt, asIntOf, run_underlying' hu, Instr.sureAddr, g2, run_sizeOf' hi, addr_add, Nat.add_assoc]

/-! #### parts of aggregates -/
noncomputable def partK (P : Program) (t : TypeId) (cs : List AV) (off : Nat) (k : AV → Bool) : Bool := match P.underlying t with
  | some d => match P.info? t with
    | some i => bc (isAggD d) (forceL (List.take i.size (List.drop off cs)) fun l => k (.ag l)) (match List.drop off cs with | v :: _ => force v k | [] => false)
    | none => false
  | none => false

theorem partK_ok {P : Program} {t : TypeId} {cs : List AV} {vs : Array Value} {off : Nat} {k : AV → Bool} (he : partK P t cs off k = true) (r : RvL E cs vs.toList) :
    ∃ v W, (part t vs off).run P w = .ok W w ∧ Rv E v W ∧ k v = true := by
  unfold partK at he
  split at he <;> try (cases he; done)
  rename_i d hu
  split at he <;> try (cases he; done)
  rename_i i hi
  unfold part
  simp only [Sem.run_bind, run_isAgg' hu, Result.andThen_ok]
  rcases bc_or he with ⟨ha, he⟩ | ⟨ha, he⟩
  · rw [forceL_eq] at he
    refine ⟨_, .agg (vs.extract off (off + i.size)), ?_, ?_, he⟩
    · simp [ha, run_sizeOf' hi]
    · rw [Rv]
      refine ⟨(vs.toList.drop off).take i.size, ?_, (r.drop off).take _⟩
      congr 1
      apply Array.ext'
      simp [List.take_drop]
  · simp only [ha, Bool.false_eq_true, if_false]
    split at he <;> try (cases he; done)
    rename_i v rest hd
    rw [force_eq] at he
    have hg : cs[off]? = some v := by
      have := congrArg (fun l => l[0]?) hd
      simpa using this
    obtain ⟨V, hV, hr⟩ := r.get off v hg
    have : vs[off]? = some V := by simpa using hV
    exact ⟨v, V, by simp [this], hr, he⟩

noncomputable def evField (P : Program) (t : TypeId) (x : AV) (f : Nat) (k : AV → Bool) : Bool := match x with
  | .ag cs => match P.underlying t with
    | some (.struct fs) => match fs[f]? with
      | some fld => partK P fld.type cs fld.offset k
      | none => false
    | _ => false
  | _ => false

theorem evField_ok {P : Program} {t : TypeId} {x : AV} {X : Value} {f : Nat} {k : AV → Bool} (he : evField P t x f k = true) (hx : Rv E x X) :
    ∃ v W, (Instr.field t X f).run P w = .ok W w ∧ Rv E v W ∧ k v = true := by
  unfold evField at he
  split at he <;> try (cases he; done)
  rename_i cs
  split at he <;> try (cases he; done)
  rename_i fs hu
  split at he <;> try (cases he; done)
  rename_i fld hf
  rw [Rv] at hx
  obtain ⟨vs, rfl, r⟩ := hx
  obtain ⟨v, W, h1, h2, h3⟩ := partK_ok (w := w) (vs := vs.toArray) he (by simpa using r)
  exact ⟨v, W, by simp [Instr.field, run_underlying' hu, hf, asAgg, h1], h2, h3⟩

noncomputable def evIndex (P : Program) (t : TypeId) (x ix : AV) (k : AV → Bool) : Bool := match ix with
  | .i _ n => natOf n fun m => match P.underlying t with
    | some (.array len el) => match P.info? el with
      | some i => match x with
        | .ag cs => bc (Nat.ble (m + 1) len) (partK P el cs (Nat.mul m i.size) k) false
        | _ => false
      | none => false
    | some .string => match x with
      | .s len bits => bc (Nat.ble (m + 1) len) (forceN (Nat.mod (Nat.div bits (Nat.pow 256 m)) 256) fun b => k (.i .u8 (.ofNat b))) false
      | _ => false
    | _ => false
  | _ => false

theorem str_get (l n m : Nat) (h : m < l) : (str l n)[m]? = some (UInt8.ofNat (n / 256 ^ m % 256)) := by
  have h1 := unpack_get l n m h
  have h2 : (str l n)[m]? = (str l n).data.toList[m]? := by
    have hs : m < (str l n).size := by simpa using h
    rw [getElem?_pos (str l n) m hs]
    have : m < (str l n).data.size := hs
    simp only [Array.getElem?_toList, Array.getElem?_eq_getElem this]
    rfl
  rw [h2, str_toList, h1]

theorem evIndex_ok {P : Program} {t : TypeId} {x ix : AV} {X I : Value} {k : AV → Bool} (he : evIndex P t x ix k = true) (hx : Rv E x X) (hI : Rv E ix I) :
    ∃ v W, (Instr.index t X I).run P w = .ok W w ∧ Rv E v W ∧ k v = true := by
  unfold evIndex at he
  split at he <;> try (cases he; done)
  rename_i kk n
  rw [Rv] at hI; subst hI
  obtain ⟨m, rfl, he⟩ := natOf_ok he
  split at he <;> try (cases he; done)
  · rename_i len el hu
    split at he <;> try (cases he; done)
    rename_i i hi
    split at he <;> try (cases he; done)
    rename_i cs _
    obtain ⟨h1, h2⟩ := bc_and he
    have h1 := Nat.le_of_ble_eq_true h1
    rw [Rv] at hx
    obtain ⟨vs, rfl, r⟩ := hx
    obtain ⟨v, W, g1, g2, g3⟩ := partK_ok (w := w) (vs := vs.toArray) h2 (by simpa using r)
    have gl : m < len := by omega
    have g1 : (part el vs.toArray (m * i.size)).run P w = .ok W w := g1
    exact ⟨v, W, by simp [Instr.index, asIntOf, run_underlying' hu, gl, run_sizeOf' hi, g1], g2, g3⟩
  · rename_i hu
    split at he <;> try (cases he; done)
    rename_i len bits _
    obtain ⟨h1, h2⟩ := bc_and he
    have h1 := Nat.le_of_ble_eq_true h1
    rw [forceN_eq] at h2
    rw [Rv] at hx; subst hx
    refine ⟨_, .int .u8 ((bits / 256 ^ m % 256 : Nat) : Int), ?_, by rw [Rv]; rfl, h2⟩
    have g2 : ((UInt8.ofNat (bits / 256 ^ m % 256)).toNat : Int) = ((bits / 256 ^ m % 256 : Nat) : Int) := by
      rw [UInt8.toNat_ofNat', Nat.mod_mod_of_dvd _ (by decide)]
    have g3 : (str len bits)[m]? = some (UInt8.ofNat (bits / 256 ^ m % 256)) := str_get len bits m (by omega)
    simp only [Instr.index, asIntOf, Sem.run_bind, Sem.run_pure, Result.andThen_ok, run_underlying' hu, Int.natCast_nonneg, if_true, Int.toNat_natCast, g3, g2]

/-! #### slices of strings and slices -/
theorem str_extract (l n a b : Nat) (h1 : a ≤ b) (h2 : b ≤ l) : (str l n).extract a b = str (b - a) (n / 256 ^ a) := by
  have : ((str l n).extract a b).data.toList = (str (b - a) (n / 256 ^ a)).data.toList := by
    have e : ((str l n).extract a b).data = (str l n).data.extract a b := by simp [ByteArray.data_extract]
    rw [e, Array.toList_extract, str_toList, str_toList, List.extract_eq_take_drop, unpack_drop, unpack_take]
    omega
  have h := Array.ext' this
  cases hx : (str l n).extract a b
  rw [hx] at h
  simp only at h
  rw [h]

/-- a bound of a slice expression -/
noncomputable def bnd (x : Option AV) (d : Nat) (k : Nat → Bool) : Bool := match x with
  | none => k d
  | some (.i _ n) => natOf n k
  | _ => false

def Rvo (E : Env) : Option AV → Option Value → Prop
  | none, V => V = none
  | some a, V => ∃ W, V = some W ∧ Rv E a W

theorem sliceBound_run (P : Program) (kk : IntKind) (m y : Nat) (code : BoundsCode) (hm : m ≤ y) : (Instr.sliceBound (.int kk (m : Int)) y code).run P w = .ok m w := by
  have : (m : Int) ≤ y := by omega
  simp [Instr.sliceBound, asIntOf, this]

theorem bnd_ok {x : Option AV} {V : Option Value} {d : Nat} {k : Nat → Bool} (he : bnd x d k = true) (r : Rvo E x V) :
    (V = none ∧ k d = true) ∨ ∃ (kk : IntKind) (m : Nat), V = some (.int kk (m : Int)) ∧ k m = true := by
  unfold bnd at he
  split at he
  · exact .inl ⟨r, he⟩
  · rename_i kk n
    obtain ⟨W, rfl, r⟩ := r
    rw [Rv] at r; subst r
    obtain ⟨m, rfl, hk⟩ := natOf_ok he
    exact .inr ⟨kk, m, rfl, hk⟩
  · cases he

/-- bounds for a slice without the third index -/
theorem bounds2 (P : Program) {isS : Bool} {len cap : Nat} {lo hi : Option AV} {LO HI : Option Value} {k : Nat → Nat → Bool} (rl : Rvo E lo LO) (rh : Rvo E hi HI) (hlen : len ≤ cap) {lim : Nat} (hlim : lim ≤ cap)
    (he : bnd hi len (fun m => bnd lo 0 fun l => bc (Nat.ble l m) (bc (Nat.ble m lim) (k l m) false) false) = true) :
    ∃ l m, (Instr.sliceBounds isS len cap LO HI none).run P w = .ok (l, m, cap) w ∧ l ≤ m ∧ m ≤ lim ∧ k l m = true := by
  rcases bnd_ok he rh with ⟨rfl, he⟩ | ⟨kk, m, rfl, he⟩
  · rcases bnd_ok he rl with ⟨rfl, he⟩ | ⟨kl, l, rfl, he⟩
    · obtain ⟨h1, he⟩ := bc_and he
      obtain ⟨h2, he⟩ := bc_and he
      exact ⟨0, len, by simp [Instr.sliceBounds], Nat.zero_le _, Nat.le_of_ble_eq_true h2, he⟩
    · obtain ⟨h1, he⟩ := bc_and he
      obtain ⟨h2, he⟩ := bc_and he
      have h1 := Nat.le_of_ble_eq_true h1
      exact ⟨l, len, by simp [Instr.sliceBounds, sliceBound_run P kl l len _ h1], h1, Nat.le_of_ble_eq_true h2, he⟩
  · rcases bnd_ok he rl with ⟨rfl, he⟩ | ⟨kl, l, rfl, he⟩
    · obtain ⟨h1, he⟩ := bc_and he
      obtain ⟨h2, he⟩ := bc_and he
      have h2 := Nat.le_of_ble_eq_true h2
      exact ⟨0, m, by simp [Instr.sliceBounds, sliceBound_run P kk m cap _ (Nat.le_trans h2 hlim)], Nat.zero_le _, h2, he⟩
    · obtain ⟨h1, he⟩ := bc_and he
      obtain ⟨h2, he⟩ := bc_and he
      have h1 := Nat.le_of_ble_eq_true h1
      have h2 := Nat.le_of_ble_eq_true h2
      exact ⟨l, m, by simp [Instr.sliceBounds, sliceBound_run P kk m cap _ (Nat.le_trans h2 hlim), sliceBound_run P kl l m _ h1], h1, h2, he⟩

/-- bounds for a slice with the third index -/
theorem bounds3 (P : Program) {isS : Bool} {len cap : Nat} {lo hi mx : Option AV} {LO HI MX : Option Value} {k : Nat → Nat → Nat → Bool} (rl : Rvo E lo LO) (rh : Rvo E hi HI) (rm : Rvo E mx MX) {lim : Nat} (hlim : lim ≤ cap)
    (hm : mx.isSome = true) (hh : hi.isSome = true)
    (he : bnd mx 0 (fun c => bnd hi 0 fun m => bnd lo 0 fun l => bc (Nat.ble l m) (bc (Nat.ble m c) (bc (Nat.ble c lim) (k l m c) false) false) false) = true) :
    ∃ l m c, (Instr.sliceBounds isS len cap LO HI MX).run P w = .ok (l, m, c) w ∧ l ≤ m ∧ m ≤ c ∧ c ≤ lim ∧ k l m c = true := by
  rcases bnd_ok he rm with ⟨rfl, he⟩ | ⟨kc, c, rfl, he⟩
  · cases mx with
    | none => cases hm
    | some a => obtain ⟨W, h, _⟩ := rm; cases h
  rcases bnd_ok he rh with ⟨rfl, he⟩ | ⟨kk, m, rfl, he⟩
  · cases hi with
    | none => cases hh
    | some a => obtain ⟨W, h, _⟩ := rh; cases h
  rcases bnd_ok he rl with ⟨rfl, he⟩ | ⟨kl, l, rfl, he⟩
  · obtain ⟨h1, he⟩ := bc_and he
    obtain ⟨h2, he⟩ := bc_and he
    obtain ⟨h3, he⟩ := bc_and he
    have h2 := Nat.le_of_ble_eq_true h2
    have h3 := Nat.le_of_ble_eq_true h3
    exact ⟨0, m, c, by simp [Instr.sliceBounds, sliceBound_run P kc c cap _ (Nat.le_trans h3 hlim), sliceBound_run P kk m c _ h2], Nat.zero_le _, h2, h3, he⟩
  · obtain ⟨h1, he⟩ := bc_and he
    obtain ⟨h2, he⟩ := bc_and he
    obtain ⟨h3, he⟩ := bc_and he
    have h1 := Nat.le_of_ble_eq_true h1
    have h2 := Nat.le_of_ble_eq_true h2
    have h3 := Nat.le_of_ble_eq_true h3
    exact ⟨l, m, c, by simp [Instr.sliceBounds, sliceBound_run P kc c cap _ (Nat.le_trans h3 hlim), sliceBound_run P kk m c _ h2, sliceBound_run P kl l m _ h1], h1, h2, h3, he⟩

noncomputable def evSlice (P : Program) (t : TypeId) (x : AV) (lo hi mx : Option AV) (k : AV → Bool) : Bool := match x with
  | .s len bits => match P.underlying t with
    | some .string => match mx with
      | none => bnd hi len (fun m => bnd lo 0 fun l => bc (Nat.ble l m) (bc (Nat.ble m len) (forceN (Nat.sub m l) fun n => forceN (Nat.div bits (Nat.pow 256 l)) fun b => k (.s n b)) false) false)
      | some _ => false
    | _ => false
  | .sn => match P.underlying t with
    | some (.slice el) => match P.info? el with
      | some _ => match mx with
        | none => bnd hi 0 (fun m => bnd lo 0 fun l => bc (Nat.ble l m) (bc (Nat.ble m 0) (k .sn) false) false)
        | some _ => false
      | none => false
    | _ => false
  | .sl id off len cap => match P.underlying t with
    | some (.slice el) => match P.info? el with
      | some i => match mx with
        | none => bc (Nat.ble len cap) (bnd hi len (fun m => bnd lo 0 fun l => bc (Nat.ble l m) (bc (Nat.ble m cap)
            (bc (Nat.beq cap l) (k (.sl id off (Nat.sub m l) (Nat.sub cap l))) (forceN (Nat.add off (Nat.mul l i.size)) fun o => forceN (Nat.sub m l) fun n => forceN (Nat.sub cap l) fun c => k (.sl id o n c))) false) false)) false
        | some _ => bc hi.isSome (bnd mx 0 (fun c => bnd hi 0 fun m => bnd lo 0 fun l => bc (Nat.ble l m) (bc (Nat.ble m c) (bc (Nat.ble c cap)
            (bc (Nat.beq c l) (k (.sl id off (Nat.sub m l) (Nat.sub c l))) (forceN (Nat.add off (Nat.mul l i.size)) fun o => forceN (Nat.sub m l) fun n => forceN (Nat.sub c l) fun c => k (.sl id o n c))) false) false) false)) false
      | none => false
    | _ => false
  | .so id off len used => match P.underlying t with
    | some (.slice el) => match P.info? el with
      | some i => match mx with
        | none => bnd hi len (fun m => bnd lo 0 fun l => bc (Nat.ble l m) (bc (Nat.ble m len)
            (bc (Nat.ble (l + 1) len) (forceN (Nat.add off (Nat.mul l i.size)) fun o => forceN (Nat.sub m l) fun n => forceN (Nat.add used l) fun u => k (.so id o n u)) (bc (Nat.beq l 0) (k (.so id off 0 used)) false)) false) false)
        | some _ => bc hi.isSome (bnd mx 0 (fun c => bnd hi 0 fun m => bnd lo 0 fun l => bc (Nat.ble l m) (bc (Nat.ble m c) (bc (Nat.ble c len)
            (bc (Nat.beq c l) (k (.sl id off (Nat.sub m l) (Nat.sub c l))) (forceN (Nat.add off (Nat.mul l i.size)) fun o => forceN (Nat.sub m l) fun n => forceN (Nat.sub c l) fun c => k (.sl id o n c))) false) false) false)) false
      | none => false
    | _ => false
  | .p id off => match P.underlying t with
    | some (.array n el) => match P.info? el with
      | some i => match mx with
        | none => bnd hi n (fun m => bnd lo 0 fun l => bc (Nat.ble l m) (bc (Nat.ble m n)
            (bc (Nat.beq n l) (k (.sl id off (Nat.sub m l) (Nat.sub n l))) (forceN (Nat.add off (Nat.mul l i.size)) fun o => forceN (Nat.sub m l) fun m' => forceN (Nat.sub n l) fun c => k (.sl id o m' c))) false) false)
        | some _ => false
      | none => false
    | _ => false
  | _ => false

theorem evSlice_ok {P : Program} {t : TypeId} {x : AV} {X : Value} {lo hi mx : Option AV} {LO HI MX : Option Value} {k : AV → Bool} (he : evSlice P t x lo hi mx k = true)
    (hx : Rv E x X) (rl : Rvo E lo LO) (rh : Rvo E hi HI) (rm : Rvo E mx MX) :
    ∃ v W, (Instr.sliceAt t X LO HI MX).run P w = .ok W w ∧ Rv E v W ∧ k v = true := by
  cases x <;> simp only [evSlice, Bool.false_eq_true] at he
  case s len bits =>
    rw [Rv] at hx; subst hx
    split at he <;> try (cases he; done)
    rename_i hu
    split at he <;> try (cases he; done)
    rw [show MX = none from rm]
    obtain ⟨l, m, h1, h2, h3, h4⟩ := bounds2 (w := w) P (isS := false) (cap := len) rl rh (Nat.le_refl _) (Nat.le_refl _) he
    rw [forceN_eq, forceN_eq] at h4
    refine ⟨_, .string (str (m - l) (bits / 256 ^ l)), ?_, by rw [Rv]; rfl, h4⟩
    simp [Instr.sliceAt, Instr.slice, run_underlying' hu, h1, str_extract len bits l m h2 h3]
  case sn =>
    rw [Rv] at hx; subst hx
    split at he <;> try (cases he; done)
    rename_i el hu
    split at he <;> try (cases he; done)
    rename_i i hi'
    split at he <;> try (cases he; done)
    rw [show MX = none from rm]
    obtain ⟨l, m, h1, h2, h3, h4⟩ := bounds2 (w := w) P (isS := true) (len := 0) (cap := 0) rl rh (Nat.le_refl _) (Nat.le_refl _) he
    refine ⟨_, .slice none 0 0, ?_, by rw [Rv], h4⟩
    obtain rfl : m = 0 := by omega
    obtain rfl : l = 0 := by omega
    simp [Instr.sliceAt, Instr.slice, run_underlying' hu, h1, run_sizeOf' hi']
  case sl id off len cap =>
    rw [Rv] at hx
    obtain ⟨L, hL, rfl⟩ := hx
    split at he <;> try (cases he; done)
    rename_i el hu
    split at he <;> try (cases he; done)
    rename_i i hi'
    split at he
    · rw [show MX = none from rm]
      obtain ⟨hlc, he⟩ := bc_and he
      obtain ⟨l, m, h1, h2, h3, h4⟩ := bounds2 (w := w) P (isS := true) (len := len) (cap := cap) rl rh (Nat.le_of_ble_eq_true hlc) (Nat.le_refl _) he
      rcases bc_or h4 with ⟨hc, h4⟩ | ⟨hc, h4⟩
      · obtain rfl := Nat.eq_of_beq_eq_true hc
        refine ⟨_, .slice (some ⟨L.blk, L.base + off, none⟩) (m - cap) (cap - cap), ?_, by rw [Rv]; exact ⟨L, hL, rfl⟩, h4⟩
        simp [Instr.sliceAt, Instr.slice, run_underlying' hu, h1, run_sizeOf' hi']
      · have hc := Nat.ne_of_beq_eq_false hc
        rw [forceN_eq, forceN_eq, forceN_eq] at h4
        refine ⟨_, .slice (some ⟨L.blk, L.base + (off + l * i.size), none⟩) (m - l) (cap - l), ?_, by rw [Rv]; exact ⟨L, hL, rfl⟩, h4⟩
        simp [Instr.sliceAt, Instr.slice, run_underlying' hu, h1, run_sizeOf' hi', hc, addr_add, Nat.add_assoc]
    · obtain ⟨hhi, he⟩ := bc_and he
      obtain ⟨l, m, c, h1, h2, h3, h3', h4⟩ := bounds3 (w := w) P (isS := true) (len := len) (cap := cap) rl rh rm (Nat.le_refl _) rfl hhi he
      rcases bc_or h4 with ⟨hc, h4⟩ | ⟨hc, h4⟩
      · have hc := Nat.eq_of_beq_eq_true hc
        refine ⟨_, .slice (some ⟨L.blk, L.base + off, none⟩) (m - l) (c - l), ?_, by rw [Rv]; exact ⟨L, hL, rfl⟩, h4⟩
        simp [Instr.sliceAt, Instr.slice, run_underlying' hu, h1, run_sizeOf' hi', hc]
      · have hc := Nat.ne_of_beq_eq_false hc
        rw [forceN_eq, forceN_eq, forceN_eq] at h4
        refine ⟨_, .slice (some ⟨L.blk, L.base + (off + l * i.size), none⟩) (m - l) (c - l), ?_, by rw [Rv]; exact ⟨L, hL, rfl⟩, h4⟩
        simp [Instr.sliceAt, Instr.slice, run_underlying' hu, h1, run_sizeOf' hi', hc, addr_add, Nat.add_assoc]
  case so id off len used =>
    rw [Rv] at hx
    obtain ⟨L, hL, rfl, hroom⟩ := hx
    split at he <;> try (cases he; done)
    rename_i el hu
    split at he <;> try (cases he; done)
    rename_i i hi'
    split at he
    · rw [show MX = none from rm]
      obtain ⟨l, m, h1, h2, h3, h4⟩ := bounds2 (w := w) P (isS := true) (len := len) (cap := L.room - used) rl rh (by omega) (show len ≤ L.room - used by omega) he
      rcases bc_or h4 with ⟨hc, h4⟩ | ⟨hc, h4⟩
      · have hc := Nat.le_of_ble_eq_true hc
        rw [forceN_eq, forceN_eq, forceN_eq] at h4
        have hne : ¬ (L.room - used = l) := by omega
        have e : L.room - used - l = L.room - (used + l) := by omega
        refine ⟨_, .slice (some ⟨L.blk, L.base + (off + l * i.size), none⟩) (m - l) (L.room - (used + l)), ?_, by rw [Rv]; exact ⟨L, hL, rfl, by show used + l + (m - l) ≤ L.room; omega⟩, h4⟩
        simp [Instr.sliceAt, Instr.slice, run_underlying' hu, h1, run_sizeOf' hi', hne, addr_add, Nat.add_assoc, e]
      · obtain ⟨hz, h4⟩ := bc_and h4
        have hz := Nat.eq_of_beq_eq_true hz
        have hc : ¬ (l + 1 ≤ len) := fun h => by rw [Nat.ble_eq_true_of_le h] at hc; cases hc
        subst hz
        obtain rfl : len = 0 := by omega
        obtain rfl : m = 0 := by omega
        refine ⟨_, .slice (some ⟨L.blk, L.base + off, none⟩) 0 (L.room - used), ?_, by rw [Rv]; exact ⟨L, hL, rfl, by omega⟩, h4⟩
        simp [Instr.sliceAt, Instr.slice, run_underlying' hu, h1, run_sizeOf' hi', addr_add]
    · obtain ⟨hhi, he⟩ := bc_and he
      obtain ⟨l, m, c, h1, h2, h3, h3', h4⟩ := bounds3 (w := w) P (isS := true) (len := len) (cap := L.room - used) rl rh rm (show len ≤ L.room - used by omega) rfl hhi he
      rcases bc_or h4 with ⟨hc, h4⟩ | ⟨hc, h4⟩
      · have hc := Nat.eq_of_beq_eq_true hc
        refine ⟨_, .slice (some ⟨L.blk, L.base + off, none⟩) (m - l) (c - l), ?_, by rw [Rv]; exact ⟨L, hL, rfl⟩, h4⟩
        simp [Instr.sliceAt, Instr.slice, run_underlying' hu, h1, run_sizeOf' hi', hc]
      · have hc := Nat.ne_of_beq_eq_false hc
        rw [forceN_eq, forceN_eq, forceN_eq] at h4
        refine ⟨_, .slice (some ⟨L.blk, L.base + (off + l * i.size), none⟩) (m - l) (c - l), ?_, by rw [Rv]; exact ⟨L, hL, rfl⟩, h4⟩
        simp [Instr.sliceAt, Instr.slice, run_underlying' hu, h1, run_sizeOf' hi', hc, addr_add, Nat.add_assoc]
  case p id off =>
    rw [Rv] at hx
    obtain ⟨L, hL, rfl⟩ := hx
    split at he <;> try (cases he; done)
    rename_i n el hu
    split at he <;> try (cases he; done)
    rename_i i hi'
    split at he <;> try (cases he; done)
    rw [show MX = none from rm]
    obtain ⟨l, m, h1, h2, h3, h4⟩ := bounds2 (w := w) P (isS := false) (len := n) (cap := n) rl rh (Nat.le_refl _) (Nat.le_refl _) he
    rcases bc_or h4 with ⟨hc, h4⟩ | ⟨hc, h4⟩
    · obtain rfl := Nat.eq_of_beq_eq_true hc
      refine ⟨_, .slice (some ⟨L.blk, L.base + off, none⟩) (m - n) (n - n), ?_, by rw [Rv]; exact ⟨L, hL, rfl⟩, h4⟩
      simp [Instr.sliceAt, Instr.sureAddr, run_underlying' hu, h1, run_sizeOf' hi']
    · have hc := Nat.ne_of_beq_eq_false hc
      rw [forceN_eq, forceN_eq, forceN_eq] at h4
      refine ⟨_, .slice (some ⟨L.blk, L.base + (off + l * i.size), none⟩) (m - l) (n - l), ?_, by rw [Rv]; exact ⟨L, hL, rfl⟩, h4⟩
      simp [Instr.sliceAt, Instr.sureAddr, run_underlying' hu, h1, run_sizeOf' hi', hc, addr_add, Nat.add_assoc]
end
end Go.Proofs.YtbmekbpgoakkbaaGreatDoor.Vx
