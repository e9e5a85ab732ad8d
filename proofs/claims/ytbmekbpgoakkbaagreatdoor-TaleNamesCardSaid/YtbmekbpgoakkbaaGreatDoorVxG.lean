/- More operations of the evaluator: conversions, type assertions, append, copy, len and their kin. No condition. -/
import Derived.Test.YtbmekbpgoakkbaaGreatDoorVxF
set_option linter.unusedVariables false
set_option linter.unusedSimpArgs false
set_option linter.constructorNameAsVariable false
set_option linter.unusedSectionVars false
namespace Go.Proofs.YtbmekbpgoakkbaaGreatDoor.Vx
open Go

section
variable {E : Env} {h : Heap} {nxt : Nat} {w : World}

/-! #### unary operators, conversions -/
noncomputable def symNot (op : UnOp) (e : SE) (k : AV → Bool) : Bool := match op with
  | .not => k (.x .b (.not e))
  | _ => false
noncomputable def evUn (P : Program) (op : UnOp) (x : AV) (k : AV → Bool) : Bool := match x with
  | .x .b e => symNot op e k
  | x => pure1 P (Op.unary op) x k
theorem evUn_ok {P : Program} {op : UnOp} {x : AV} {X : Value} {k : AV → Bool} (he : evUn P op x k = true) (rx : Rv E x X) : ∃ v W, (Op.unary op X).run P w = .ok W w ∧ Rv E v W ∧ k v = true := by
  unfold evUn at he
  split at he
  · unfold symNot at he
    split at he <;> try (cases he; done)
    rw [Rv] at rx
    obtain ⟨hd, b, rfl⟩ := rx
    exact ⟨_, .bool (!b), by simp [Op.unary], by rw [Rv]; exact ⟨by simp only [den, hd], _, rfl⟩, he⟩
  · exact pure1_ok he rx

theorem wrap_in {k : IntKind} {n : Int} (h1 : k.min ≤ n) (h2 : n ≤ k.max) : k.wrap n = n := by
  unfold IntKind.wrap
  cases k <;> simp [IntKind.min, IntKind.max, IntKind.bits, IntKind.signed] at * <;> omega
/-- an expression as a number of another kind, or as a string of another name -/
noncomputable def symConv (P : Program) (ds dd : TypeDesc) (s : Srt) (e : SE) (k : AV → Bool) : Bool := match s, dd with
  | .i .i64, .float .f64 => k (.x .f (.fn 12 e))
  | .i .u64, .int .i64 => k (.x (.i .i64) (.fn 3 e))
  | .i k0, .int k1 => bc (decide (k1.min ≤ k0.min)) (bc (decide (k0.max ≤ k1.max)) (k (.x (.i k1) (.conv k1 e))) false) false
  | .s, .string => k (.x .s e)
  | _, _ => false

theorem str_ascii (n : Nat) (hn : n < 128) : Utf8.encode (n : Int) = str 1 n := by
  unfold Utf8.encode
  have hv : Utf8.valid (n : Int) = true := by
    unfold Utf8.valid
    have h1 : (0 : Int) ≤ n := by omega
    have h2 : (n : Int) < 0xD800 := by omega
    simp [h2]
  have e : unpack 1 n = [UInt8.ofNat n] := by
    rw [unpack, unpack, Nat.mod_eq_of_lt (by omega)]
  simp only [hv, if_true, Int.toNat_natCast, hn, str, e]

noncomputable def evConv (P : Program) (src dst : TypeId) (x : AV) (k : AV → Bool) : Bool := match P.underlying src with
  | some ds => match P.underlying dst with
    | some .string => (match x with
      | .s a b => k (.s a b)
      | .x s e => symConv P ds .string s e k
      | .i _ n => (match ds with
        | .int _ => natOf n fun m => bc (Nat.ble (m + 1) 128) (k (.s 1 m)) false
        | _ => false)
      | _ => false)
    | some (.int k1) => (match x with
      | .x s e => symConv P ds (.int k1) s e k
      | x => pure1 P (convert src dst) x k)
    | some (.float kf) => (match x with
      | .x s e => symConv P ds (.float kf) s e k
      | x => pure1 P (convert src dst) x k)
    | _ => false
  | none => false

theorem symConv_ok {P : Program} {src dst : TypeId} {ds dd : TypeDesc} {s : Srt} {e : SE} {X : Value} {k : AV → Bool} (hs : P.underlying src = some ds) (hd : P.underlying dst = some dd) (he : symConv P ds dd s e k = true) (rx : Rv E (.x s e) X) :
    ∃ v W, (convert src dst X).run P w = .ok W w ∧ Rv E v W ∧ k v = true := by
  unfold symConv at he
  rw [Rv] at rx
  split at he
  · obtain ⟨hden, n, rfl, q1, q2⟩ := rx
    refine ⟨_, .float .f64 (FloatKind.f64.nearest n), ?_, ?_, he⟩
    · cases ds <;> simp [convert, run_underlying' hs, run_underlying' hd, Conv.intToFloat]
    · rw [Rv]
      exact ⟨by simp only [den, hden]; rfl, _, rfl, near_lt n⟩
  · obtain ⟨hden, n, rfl, q1, q2⟩ := rx
    refine ⟨_, .int .i64 (IntKind.i64.wrap n), ?_, ?_, he⟩
    · cases ds <;> simp [convert, run_underlying' hs, run_underlying' hd, Conv.intToInt]
    · rw [Rv]
      refine ⟨by simp only [den, hden]; rfl, _, rfl, ?_⟩
      have e1 : IntKind.i64.min = -9223372036854775808 := rfl
      have e2 : IntKind.i64.max = 9223372036854775807 := rfl
      rw [e1, e2]
      simp [IntKind.wrap, IntKind.bits, IntKind.signed]
      split <;> omega
  · rename_i k0 k1 _
    obtain ⟨h1, he⟩ := bc_and he
    obtain ⟨h2, he⟩ := bc_and he
    have h1 := of_decide_eq_true h1
    have h2 := of_decide_eq_true h2
    obtain ⟨hden, n, rfl, q1, q2⟩ := rx
    have hw : k1.wrap n = n := wrap_in (by omega) (by omega)
    refine ⟨_, .int k1 n, ?_, ?_, he⟩
    · cases ds <;> simp [convert, run_underlying' hs, run_underlying' hd, Conv.intToInt, hw]
    · rw [Rv]; exact ⟨by simp only [den, hden]; rw [if_pos ⟨by omega, by omega⟩], n, rfl, by omega, by omega⟩
  · obtain ⟨hden, n, rfl, q⟩ := rx
    refine ⟨_, .string n, ?_, by rw [Rv]; exact ⟨hden, n, rfl, q⟩, he⟩
    cases ds <;> simp [convert, run_underlying' hs, run_underlying' hd]
  · cases he

theorem evConv_ok {P : Program} {src dst : TypeId} {x : AV} {X : Value} {k : AV → Bool} (he : evConv P src dst x k = true) (rx : Rv E x X) :
    ∃ v W, (convert src dst X).run P w = .ok W w ∧ Rv E v W ∧ k v = true := by
  unfold evConv at he
  split at he <;> try (cases he; done)
  rename_i ds hs
  split at he
  · rename_i hd
    split at he <;> try (cases he; done)
    · rename_i a b
      rw [Rv] at rx; subst rx
      exact ⟨_, .string (str a b), by simp [convert, run_underlying' hs, run_underlying' hd], by rw [Rv], he⟩
    · exact symConv_ok hs hd he rx
    · rename_i kk n
      rw [Rv] at rx; subst rx
      split at he <;> try (cases he; done)
      obtain ⟨m, e, he1⟩ := natOf_ok he
      subst e
      obtain ⟨hm, he2⟩ := bc_and he1
      have hm := Nat.le_of_ble_eq_true hm
      refine ⟨_, .string (str 1 m), ?_, by rw [Rv], he2⟩
      simp only [convert, Sem.run_bind, run_underlying' hs, run_underlying' hd, Result.andThen_ok, Conv.intToString, Sem.run_pure, str_ascii m (by omega)]
  · rename_i k1 hd
    split at he
    · exact symConv_ok hs hd he rx
    · exact pure1_ok he rx
  · rename_i kf hd
    split at he
    · exact symConv_ok hs hd he rx
    · exact pure1_ok he rx
  · cases he

/-! #### type assertions, interfaces -/
noncomputable def evMkIface (P : Program) (t : TypeId) (x : AV) (k : AV → Bool) : Bool := match P.underlying t with
  | some (.interface _) => false
  | some _ => (match x with | .no => false | x => k (.ifc t x))
  | none => false

theorem evMkIface_ok {P : Program} {t : TypeId} {x : AV} {X : Value} {k : AV → Bool} (he : evMkIface P t x k = true) (rx : Rv E x X) :
    ∃ v W, (Instr.makeInterface t X).run P w = .ok W w ∧ Rv E v W ∧ k v = true := by
  unfold evMkIface at he
  split at he
  · cases he
  · rename_i d hd hu
    have e : k (.ifc t x) = true := by
      split at he
      · cases he
      · exact he
    refine ⟨_, .iface t X, ?_, by rw [Rv]; exact ⟨X, rfl, rx⟩, e⟩
    simp only [Instr.makeInterface, Sem.run_bind, run_underlying' hu, Result.andThen_ok]
    first | rfl | (split <;> simp_all)
  · cases he

noncomputable def evAssert (P : Program) (x : AV) (asserted : TypeId) (commaOk : Bool) (k : AV → Bool) : Bool := match P.underlying asserted with
  | some (.interface want) => (match x with
    | .ifc t v => (match P.info? t with
      | some i => (match Instr.missingMethod want i.methods with
        | none => bc commaOk (k (.tu [.ifc t v, .b true])) (k (.ifc t v))
        | some _ => (match P.info? asserted with
          | some j => (match j.zero with
            | some z => bc commaOk (force (absV z) fun z => k (.tu [z, .b false])) false
            | none => false)
          | none => false))
      | none => false)
    | .inil => (match P.info? asserted with
      | some j => (match j.zero with
        | some z => bc commaOk (force (absV z) fun z => k (.tu [z, .b false])) false
        | none => false)
      | none => false)
    | _ => false)
  | some _ => (match x with
    | .ifc t v => bc (Nat.beq t asserted) (bc commaOk (force v fun v => k (.tu [v, .b true])) (force v k)) (match P.info? asserted with
      | some j => (match j.zero with
        | some z => bc commaOk (force (absV z) fun z => k (.tu [z, .b false])) false
        | none => false)
      | none => false)
    | .inil => (match P.info? asserted with
      | some j => (match j.zero with
        | some z => bc commaOk (force (absV z) fun z => k (.tu [z, .b false])) false
        | none => false)
      | none => false)
    | _ => false)
  | none => false

theorem Rv.pair {a b : AV} {A B : Value} (ha : Rv E a A) (hb : Rv E b B) : Rv E (.tu [a, b]) (.tuple #[A, B]) := by
  rw [Rv]; exact ⟨[A, B], rfl, .cons ha (.cons hb .nil)⟩

theorem evAssert_ok {P : Program} {x : AV} {X : Value} {xt asserted : TypeId} {commaOk : Bool} {k : AV → Bool} (he : evAssert P x asserted commaOk k = true) (rx : Rv E x X) :
    ∃ v W, (Instr.typeAssert X xt asserted commaOk).run P w = .ok W w ∧ Rv E v W ∧ k v = true := by
  have fails : ∀ {s d : Option TypeId} {m : String}, (match P.info? asserted with
      | some j => (match j.zero with
        | some z => bc commaOk (force (absV z) fun z => k (.tu [z, .b false])) false
        | none => false)
      | none => false) = true → ∃ v W, (if commaOk = true then do pure (.tuple #[← zeroValue asserted, .bool false]) else runtimePanic (.typeAssertion s d asserted m) : Sem Value).run P w = .ok W w ∧ Rv E v W ∧ k v = true := by
    intro s d m hh
    split at hh <;> try (cases hh; done)
    rename_i j hj
    split at hh <;> try (cases hh; done)
    rename_i z hz
    obtain ⟨hc, hh⟩ := bc_and hh
    rw [force_eq] at hh
    exact ⟨_, .tuple #[z, .bool false], by simp [hc, run_zeroValue' hj hz], Rv.pair (absV_ok E z) (by rw [Rv]), hh⟩
  unfold evAssert at he
  split at he
  · rename_i want hu
    split at he <;> try (cases he; done)
    · rename_i t v
      have rx' := rx
      rw [Rv] at rx'
      obtain ⟨V, rfl, rv⟩ := rx'
      split at he <;> try (cases he; done)
      rename_i i hi
      split at he
      · rename_i hm
        rcases bc_or he with ⟨hc, he⟩ | ⟨hc, he⟩
        · exact ⟨_, .tuple #[.iface t V, .bool true], by simp [Instr.typeAssert, run_underlying' hu, run_typeInfo' hi, hm, hc], Rv.pair rx (by rw [Rv]), he⟩
        · exact ⟨_, .iface t V, by simp [Instr.typeAssert, run_underlying' hu, run_typeInfo' hi, hm, hc], rx, he⟩
      · rename_i m hm
        obtain ⟨v, W, h1, h2, h3⟩ := fails (s := none) (d := some t) (m := m) he
        refine ⟨v, W, ?_, h2, h3⟩
        rw [← h1]
        simp [Instr.typeAssert, run_underlying' hu, run_typeInfo' hi, hm]
    · rw [Rv] at rx; subst rx
      obtain ⟨v, W, h1, h2, h3⟩ := fails (s := none) (d := none) (m := "") he
      refine ⟨v, W, ?_, h2, h3⟩
      rw [← h1]
      simp [Instr.typeAssert, run_underlying' hu]
  · rename_i d hd hu
    split at he <;> try (cases he; done)
    · rename_i t v
      rw [Rv] at rx
      obtain ⟨V, rfl, rv⟩ := rx
      rcases bc_or he with ⟨ht, he⟩ | ⟨ht, he⟩
      · have ht := Nat.eq_of_beq_eq_true ht
        rcases bc_or he with ⟨hc, he⟩ | ⟨hc, he⟩ <;> rw [force_eq] at he
        · refine ⟨_, .tuple #[V, .bool true], ?_, Rv.pair rv (by rw [Rv]), he⟩
          simp only [Instr.typeAssert, Sem.run_bind, run_underlying' hu, Result.andThen_ok]
          split <;> simp_all
        · refine ⟨_, V, ?_, rv, he⟩
          simp only [Instr.typeAssert, Sem.run_bind, run_underlying' hu, Result.andThen_ok]
          split <;> simp_all
      · have ht := Nat.ne_of_beq_eq_false ht
        obtain ⟨v, W, h1, h2, h3⟩ := fails (s := some xt) (d := some t) (m := "") he
        refine ⟨v, W, ?_, h2, h3⟩
        rw [← h1]
        simp only [Instr.typeAssert, Sem.run_bind, run_underlying' hu, Result.andThen_ok]
        split <;> simp_all
    · rw [Rv] at rx; subst rx
      obtain ⟨v, W, h1, h2, h3⟩ := fails (s := some xt) (d := none) (m := "") he
      refine ⟨v, W, ?_, h2, h3⟩
      rw [← h1]
      simp only [Instr.typeAssert, Sem.run_bind, run_underlying' hu, Result.andThen_ok]
      try (split <;> simp_all)
  · cases he

/-! #### len, cap -/
noncomputable def evLen (P : Program) (t : TypeId) (x : AV) (h : Heap) (k : AV → Bool) : Bool := match P.underlying t with
  | some .string => (match x with | .s a _ => k (.i .i64 (.ofNat a)) | .x .s e => k (.x (.i .i64) (.len e)) | _ => false)
  | some (.slice _) => (match x with
    | .sn => k (.i .i64 (.ofNat 0))
    | .sl _ _ n _ => k (.i .i64 (.ofNat n))
    | .so _ _ n _ => k (.i .i64 (.ofNat n))
    | .sx _ _ len _ => k (.x (.i .i64) len)
    | .sz _ len => k (.x (.i .i64) len)
    | .sr _ len => k (.x (.i .i64) len)
    | _ => false)
  | some (.array n _) => k (.i .i64 (.ofNat n))
  | some (.map _ _) => (match x with
    | .mpn => k (.i .i64 (.ofNat 0))
    | .mp id => (match T.get .gone h id with
      | .map es _ => forceN (List.length es) fun n => k (.i .i64 (.ofNat n))
      | _ => false)
    | _ => false)
  | _ => false

theorem REntL.length {E : Env} : ∀ {es : List Ent} {ms : List MapEntry}, REntL E es ms → ms.length = es.length
  | [], _, r => by rw [REntL] at r; subst r; rfl
  | _ :: _, _, r => by
    obtain ⟨_, _, rfl, _, r⟩ := r
    simp [r.length]

theorem evLen_ok {P : Program} {t ty : TypeId} {x : AV} {X : Value} {k : AV → Bool} (he : evLen P t x h k = true) (rx : Rv E x X) (hr : HR E h nxt w) :
    ∃ v W, (Builtin.len_ #[t] ty #[X]).run P w = .ok W w ∧ Rv E v W ∧ k v = true := by
  unfold evLen at he
  split at he
  · rename_i hu
    split at he <;> try (cases he; done)
    · rename_i a b
      rw [Rv] at rx; subst rx
      exact ⟨_, .int .i64 a, by simp [Builtin.len_, run_underlying' hu, goInt], by rw [Rv]; rfl, he⟩
    · rw [Rv] at rx
      obtain ⟨hd, n, rfl, q⟩ := rx
      have e1 : IntKind.i64.min = -9223372036854775808 := rfl
      have e2 : IntKind.i64.max = 9223372036854775807 := rfl
      exact ⟨_, .int .i64 n.size, by simp [Builtin.len_, run_underlying' hu, goInt], by rw [Rv]; exact ⟨by simp only [den, hd], _, rfl, by omega, by omega⟩, he⟩
  · rename_i el hu
    split at he <;> try (cases he; done)
    · rw [Rv] at rx; subst rx
      exact ⟨_, .int .i64 0, by simp [Builtin.len_, run_underlying' hu, goInt], by rw [Rv]; rfl, he⟩
    · rw [Rv] at rx
      obtain ⟨L, _, rfl⟩ := rx
      exact ⟨_, _, by simp only [Builtin.len_]; simp [run_underlying' hu, goInt]; rfl, by rw [Rv]; rfl, he⟩
    · rw [Rv] at rx
      obtain ⟨L, _, rfl, _⟩ := rx
      exact ⟨_, _, by simp only [Builtin.len_]; simp [run_underlying' hu, goInt]; rfl, by rw [Rv]; rfl, he⟩
    · rw [Rv] at rx
      obtain ⟨L, n, c, _, hd, _, _, hn, rfl⟩ := rx
      have e1 : IntKind.i64.min = -9223372036854775808 := rfl
      have e2 : IntKind.i64.max = 9223372036854775807 := rfl
      exact ⟨_, .int .i64 n, by simp [Builtin.len_, run_underlying' hu, goInt], by rw [Rv]; exact ⟨hd, _, rfl, by omega, by omega⟩, he⟩
    · rw [Rv] at rx
      obtain ⟨L, n, _, hd, hn, hz, rfl⟩ := rx
      have e1 : IntKind.i64.min = -9223372036854775808 := rfl
      have e2 : IntKind.i64.max = 9223372036854775807 := rfl
      refine ⟨_, .int .i64 n, ?_, by rw [Rv]; exact ⟨hd, _, rfl, by omega, by omega⟩, he⟩
      by_cases h0 : L.room = 0
      · have := hz h0
        subst this
        obtain ⟨q, hq⟩ := nulV_or L.base
        simp [h0, hq, Builtin.len_, run_underlying' hu, goInt]
      · simp [h0, Builtin.len_, run_underlying' hu, goInt]
    · rw [Rv] at rx
      obtain ⟨L, n, _, hd, hn, _, rfl⟩ := rx
      have e1 : IntKind.i64.min = -9223372036854775808 := rfl
      have e2 : IntKind.i64.max = 9223372036854775807 := rfl
      exact ⟨_, .int .i64 n, by simp [Builtin.len_, run_underlying' hu, goInt], by rw [Rv]; exact ⟨hd, _, rfl, by omega, by omega⟩, he⟩
  · rename_i n el hu
    exact ⟨_, .int .i64 n, by simp [Builtin.len_, run_underlying' hu, goInt], by rw [Rv]; rfl, he⟩
  · rename_i kt vt hu
    split at he <;> try (cases he; done)
    · rw [Rv] at rx; subst rx
      exact ⟨_, .int .i64 0, by simp [Builtin.len_, run_underlying' hu, goInt], by rw [Rv]; rfl, he⟩
    · rename_i id
      split at he <;> try (cases he; done)
      rename_i es ck hm
      rw [forceN_eq] at he
      rw [Rv] at rx
      obtain ⟨L, hL, rfl⟩ := rx
      have ho := hr.obj id
      rw [hm] at ho
      obtain ⟨L', ms, hL', hb, hes⟩ := ho
      obtain rfl : L = L' := Option.some.inj (hL.symm.trans hL')
      have hl := hes.length
      refine ⟨_, .int .i64 (es.length : Int), ?_, by rw [Rv]; rfl, he⟩
      have : (getObj L.blk).run P w = .ok (.map ms ck) w := by simp only [getObj, Sem.run, hb]
      simp at hl
      simp [Builtin.len_, run_underlying' hu, goInt, this, hl]
  · cases he

/-! #### append -/
/-- the cells of what is appended: their number of elements, and the cells -/
noncomputable def strL (n : Nat) : Nat → (List AV → Bool) → Bool :=
  Nat.rec (motive := fun _ => Nat → (List AV → Bool) → Bool) (fun _ k => k [])
    (fun _ ih bits k => forceN (Nat.mod bits 256) fun b => forceN (Nat.div bits 256) fun r => ih r fun l => k (.i .u8 (.ofNat b) :: l)) n

noncomputable def srcK (P : Program) (t : TypeId) (x : AV) (size : Nat) (h : Heap) (k : Nat → List AV → Bool) : Bool := match P.underlying t with
  | some (.int _) => false
  | some _ => (match x with
    | .sn => k 0 []
    | .sl id off len _ => (match T.get .gone h id with
      | .cells n _ c => bc (Nat.ble (off + len * size) n) (forceN (Nat.mul len size) fun m => rdC c m off fun l => k len l) false
      | .glob _ n c => bc (Nat.ble (off + len * size) n) (forceN (Nat.mul len size) fun m => rdN c m off fun l => k len l) false
      | _ => false)
    | .so id off len _ => (match T.get .gone h id with
      | .cells n _ c => bc (Nat.ble (off + len * size) n) (forceN (Nat.mul len size) fun m => rdC c m off fun l => k len l) false
      | _ => false)
    | .s a bits => bc (Nat.beq size 1) (strL a bits fun l => k a l) false
    | _ => false)
  | none => false

theorem strL_ok : ∀ (n bits : Nat) {k : List AV → Bool}, strL n bits k = true → ∃ l, RvL E l ((unpack n bits).map fun b => Value.int .u8 b.toNat) ∧ k l = true
  | 0, bits, k, he => ⟨[], by simp [unpack, RvL], he⟩
  | n + 1, bits, k, he => by
    have he : forceN (Nat.mod bits 256) (fun b => forceN (Nat.div bits 256) fun r => strL n r fun l => k (.i .u8 (.ofNat b) :: l)) = true := he
    rw [forceN_eq, forceN_eq] at he
    obtain ⟨l, h1, h2⟩ := strL_ok n _ he
    refine ⟨_, .cons ?_ h1, h2⟩
    have e : (UInt8.ofNat (bits % 256)).toNat = bits % 256 := by
      rw [UInt8.toNat_ofNat', Nat.mod_eq_of_lt]; omega
    rw [Rv]
    show Value.int .u8 ((UInt8.ofNat (bits % 256)).toNat : Int) = _
    rw [e]; rfl

theorem srcK_ok {P : Program} {t : TypeId} {x : AV} {X : Value} {size : Nat} {k : Nat → List AV → Bool} (he : srcK P t x size h k = true) (rx : Rv E x X) (hr : HR E h nxt w) :
    ∃ (n : Nat) (l : List AV) (vs : Array Value), (∀ w' : World, (Builtin.lenOf X).run P w' = .ok n w') ∧ (∃ d, P.underlying t = some d ∧ ∀ i, d ≠ .int i) ∧ (∀ w' : World, w'.heap = w.heap → (Builtin.firstCells size n X).run P w' = .ok vs w') ∧ RvL E l vs.toList ∧ vs.size = n * size ∧ k n l = true := by
  unfold srcK at he
  split at he <;> try (cases he; done)
  rename_i d hd hu
  have hdd : ∃ d, P.underlying t = some d ∧ ∀ i, d ≠ .int i := ⟨d, hu, fun i e => hd i e⟩
  have rd : ∀ {id off len c : Nat} {L : Spot}, X = .slice (some ⟨L.blk, L.base + off, none⟩) len c → E id = some L → (match T.get .gone h id with
      | .cells n _ c => bc (Nat.ble (off + len * size) n) (forceN (Nat.mul len size) fun m => rdC c m off fun l => k len l) false
      | _ => false) = true → ∃ (n : Nat) (l : List AV) (vs : Array Value), (∀ w' : World, (Builtin.lenOf X).run P w' = .ok n w') ∧ (∃ d, P.underlying t = some d ∧ ∀ i, d ≠ .int i) ∧ (∀ w' : World, w'.heap = w.heap → (Builtin.firstCells size n X).run P w' = .ok vs w') ∧ RvL E l vs.toList ∧ vs.size = n * size ∧ k n l = true := by
    intro id off len c L hX hL he
    split at he <;> try (cases he; done)
    rename_i n esz tr hc
    obtain ⟨L', arr, el, hL', hb, hsz, _, hcs⟩ := hr.cells hc
    obtain rfl : L = L' := Option.some.inj (hL.symm.trans hL')
    obtain ⟨hle, he⟩ := bc_and he
    have hle := Nat.le_of_ble_eq_true hle
    rw [forceN_eq, rdC_ok] at he
    refine ⟨len, _, ((List.range' (L.base + off) (len * size)).map fun j => arr.getD j undef).toArray, fun w' => by rw [hX]; rfl, hdd, ?_, ?_, by simp, he⟩
    · intro w' hw'
      rw [hX]
      have hb' : w'.heap[L.blk]? = some (.cells arr el (0, 0)) := by rw [hw']; exact hb
      exact loadCells_run P hb' (L.base + off) (len * size) (by omega)
    · show RvL E _ ((List.range' (L.base + off) (len * size)).map fun j => arr.getD j undef)
      rw [range_shift]
      exact RvL.of_range _ _ fun j h1 h2 => hcs j (by have h2 : j < off + len * size := h2; omega)
  split at he <;> try (cases he; done)
  · rw [Rv] at rx; subst rx
    exact ⟨0, [], #[], fun w' => rfl, hdd, fun w' _ => by simp [Builtin.firstCells], .nil, by simp, he⟩
  · rename_i id off len cap
    rw [Rv] at rx
    obtain ⟨L, hL, rfl⟩ := rx
    cases hg : T.get .gone h id with
    | glob g n c =>
      rw [hg] at he
      have ho := hr.obj id
      rw [hg] at ho
      obtain ⟨L', arr, el, fr, hL', _, hb, hsz, hcs, _⟩ := ho
      obtain rfl : L = L' := Option.some.inj (hL.symm.trans hL')
      obtain ⟨hle, he⟩ := bc_and he
      have hle := Nat.le_of_ble_eq_true hle
      rw [forceN_eq, rdN_ok] at he
      refine ⟨len, _, ((List.range' (L.base + off) (len * size)).map fun j => arr.getD j undef).toArray, fun w' => rfl, hdd, ?_, ?_, by simp, he⟩
      · intro w' hw'
        have hb' : w'.heap[L.blk]? = some (.cells arr el fr) := by rw [hw']; exact hb
        exact loadCells_run P hb' (L.base + off) (len * size) (by omega)
      · show RvL E _ ((List.range' (L.base + off) (len * size)).map fun j => arr.getD j undef)
        rw [range_shift]
        exact RvL.of_range _ _ fun j h1 h2 => hcs j (by have h2 : j < off + len * size := h2; omega)
    | cells n e c => rw [hg] at he; exact rd rfl hL (by rw [hg]; exact he)
    | _ => rw [hg] at he; cases he
  · rw [Rv] at rx
    obtain ⟨L, hL, rfl, _⟩ := rx
    exact rd rfl hL he
  · rename_i a bits
    obtain ⟨h1, he⟩ := bc_and he
    have h1 := Nat.eq_of_beq_eq_true h1
    obtain ⟨l, h2, h3⟩ := strL_ok (E := E) a bits he
    rw [Rv] at rx; subst rx; subst h1
    refine ⟨a, l, ((unpack a bits).map fun b => Value.int .u8 b.toNat).toArray, fun w' => by simp [Builtin.lenOf], hdd, fun w' _ => ?_, h2, by simp, h3⟩
    have e : (str a bits).extract 0 a = str a bits := by
      have := str_extract a bits 0 a (Nat.zero_le _) (Nat.le_refl _)
      simpa using this
    simp only [Builtin.firstCells, e, Sem.run_pure]
    congr 1
    apply Array.ext'
    simp [str]
end
end Go.Proofs.YtbmekbpgoakkbaaGreatDoor.Vx
