/- Bytes: strings that share a row (strings.Builder), pointers of package unsafe, capacities, new rows of bytes. No condition. -/
import Derived.Test.YtbmekbpgoakkbaaGreatDoorVxH
import Derived.Lib.UnsafeStr
import Derived.Laws.BytesString
import GoSem.Extern.Table
import Derived.Laws.FloatArith
set_option linter.unusedVariables false
set_option linter.unusedSimpArgs false
set_option linter.constructorNameAsVariable false
set_option linter.unusedSectionVars false
namespace Go.Proofs.YtbmekbpgoakkbaaGreatDoor.Vx
open Go

section
variable {E : Env} {h : Heap} {nxt : Nat} {w : World}

/-! ### Bytes, packed -/
noncomputable def byteK (v : AV) (k : Nat → Bool) : Bool := match v with
  | .i .u8 n => natOf n fun m => bc (Nat.ble (m + 1) 256) (k m) false
  | _ => false
theorem byteK_ok {v : AV} {V : Value} {k : Nat → Bool} (he : byteK v k = true) (r : Rv E v V) : ∃ b : UInt8, V = .int .u8 b.toNat ∧ k b.toNat = true := by
  unfold byteK at he
  split at he <;> try (cases he; done)
  rename_i n
  obtain ⟨m, rfl, he⟩ := natOf_ok he
  obtain ⟨hm, he⟩ := bc_and he
  have hm := Nat.le_of_ble_eq_true hm
  rw [Rv] at r
  have e : (UInt8.ofNat m).toNat = m := by
    rw [UInt8.toNat_ofNat', Nat.mod_eq_of_lt]; omega
  exact ⟨UInt8.ofNat m, by rw [r, e], by rw [e]; exact he⟩

noncomputable def packL (l : List AV) : (Nat → Bool) → Bool :=
  List.rec (motive := fun _ => (Nat → Bool) → Bool) (fun k => k 0)
    (fun v _ ih k => byteK v fun m => ih fun r => forceN (Nat.add m (Nat.mul 256 r)) k) l

theorem packL_ok : ∀ (l : List AV) {k : Nat → Bool} {vs : List Value}, packL l k = true → RvL E l vs → ∃ bs : List UInt8, vs = bs.map (fun b => Value.int .u8 b.toNat) ∧ k (pack bs) = true
  | [], k, vs, he, r => by
    rw [RvL] at r; subst r
    exact ⟨[], rfl, he⟩
  | v :: l, k, vs, he, r => by
    have he : byteK v (fun m => packL l fun r => forceN (Nat.add m (Nat.mul 256 r)) k) = true := he
    rw [RvL] at r
    obtain ⟨V, vs', rfl, r1, r2⟩ := r
    obtain ⟨b, rfl, he⟩ := byteK_ok he r1
    obtain ⟨bs, rfl, he⟩ := packL_ok l he r2
    rw [forceN_eq] at he
    exact ⟨b :: bs, rfl, he⟩

theorem str_pack (bs : List UInt8) : str bs.length (pack bs) = ⟨bs.toArray⟩ := by
  unfold str; rw [unpack_pack]

/-! ### A block that is known no more may turn -/
theorem RO.same {w' : World} {i : Nat} {a : AO} (hl : ∀ M, E i = some M → w'.heap[M.blk]? = w.heap[M.blk]?) (r : RO E w i a) : RO E w' i a := by
  cases a with
  | gone => trivial
  | floor n => trivial
  | facts fs => exact r
  | ali p off q cap => exact r
  | cells n e c => obtain ⟨L, arr, el, h1, h2, h3⟩ := r; exact ⟨L, arr, el, h1, by rw [hl L h1]; exact h2, h3⟩
  | rows el len => obtain ⟨L, arr, n, h1, h0, h2, h3⟩ := r; exact ⟨L, arr, n, h1, h0, by rw [hl L h1]; exact h2, h3⟩
  | blob el sz S l len => obtain ⟨L, arr, n, h1, h0, h2, h3⟩ := r; exact ⟨L, arr, n, h1, h0, by rw [hl L h1]; exact h2, h3⟩
  | map es c => obtain ⟨L, ms, h1, h2, h3⟩ := r; exact ⟨L, ms, h1, by rw [hl L h1]; exact h2, h3⟩
  | siter l n p => obtain ⟨L, h1, h2, h3⟩ := r; exact ⟨L, h1, h2, by rw [hl L h1]; exact h3⟩
  | glob g n c => obtain ⟨L, arr, el, fr, h1, h2, h3, h4⟩ := r; exact ⟨L, arr, el, fr, h1, h2, by rw [hl L h1]; exact h3, h4⟩

theorem HR.turn (hr : HR E h nxt w) {id n : Nat} {esz : Esz} {c : Cs} (hc : T.get .gone h id = .cells n esz c) {L : Spot} (hL : E id = some L) (hfl : flr h ≤ id) (f : Obj → Obj) :
    HR E (T.set .gone h id) nxt { w with heap := w.heap.modify L.blk f } ∧ Goes E h w E (T.set .gone h id) { w with heap := w.heap.modify L.blk f } := by
  have hlive : (T.get .gone h id).live = true := by rw [hc]; rfl
  have hid0 : id ≠ 0 := by rintro rfl; rw [hr.zero] at hlive; cases hlive
  obtain ⟨h1, h2, h3⟩ := hr.forget id (fun e => absurd e hid0)
  have other : ∀ k, k ≠ L.blk → (w.heap.modify L.blk f)[k]? = w.heap[k]? := fun k hk => by
    rw [Array.getElem?_modify, if_neg (Ne.symm hk)]
  refine ⟨⟨fun i => ?_, h1.inj, h1.lt, h1.fresh, fun i M hM => by simpa using h1.inw i M hM, h1.pos, h1.flle, h1.zero⟩, ⟨Env.le_refl _, by simp, fun k hk hn => ?_, fun k hk hf => h2 k hf, h3, fun i hi => T.get_set_ne _ _ _ _ _ (by omega), rfl, rfl, rfl⟩⟩
  · cases hl : (T.get .gone (T.set .gone h id) i).live with
    | false =>
      cases hg : T.get .gone (T.set .gone h id) i <;> first | trivial | (rw [hg] at hl; cases hl; done) | (have := h1.obj i; rw [hg] at this; exact this)
    | true =>
      have hi : i ≠ id := by
        rintro rfl
        rcases T.get_set_eq AO.gone .gone h i with g | g <;> rw [g] at hl <;> cases hl
      have hl' := hl
      rw [T.get_set_ne _ _ _ _ _ hi] at hl'
      exact RO.same (fun M hM => other _ fun e => hi (hr.inj i id M L hl' hlive hM hL e)) (h1.obj i)
  · refine other k fun e => hn ⟨id, L, hfl, hlive, hL, e.symm⟩

/-! ### cap, unsafe.SliceData, unsafe.String -/
noncomputable def evCap (P : Program) (t : TypeId) (x : AV) (k : AV → Bool) : Bool := match P.underlying t with
  | some (.slice _) => (match x with
    | .sn => k (.i .i64 (.ofNat 0))
    | .sl _ _ _ c => k (.i .i64 (.ofNat c))
    | _ => false)
  | _ => false

theorem evCap_ok {P : Program} {t ty : TypeId} {x : AV} {X : Value} {k : AV → Bool} (he : evCap P t x k = true) (rx : Rv E x X) : ∃ v V, (Builtin.cap_ #[t] ty #[X]).run P w = .ok V w ∧ Rv E v V ∧ k v = true := by
  unfold evCap at he
  split at he <;> try (cases he; done)
  rename_i el hu
  split at he <;> try (cases he; done)
  · rw [Rv] at rx; subst rx
    exact ⟨_, .int .i64 (.ofNat 0), by simp [Builtin.cap_, run_underlying' hu, goInt], by rw [Rv], he⟩
  · rename_i c
    rw [Rv] at rx
    obtain ⟨L, _, rfl⟩ := rx
    exact ⟨_, .int .i64 (.ofNat c), by simp [Builtin.cap_, run_underlying' hu, goInt], by rw [Rv], he⟩

noncomputable def evSliceData (x : AV) (k : AV → Bool) : Bool := match x with
  | .sn => k .pn
  | .sl id off _ c => bc (Nat.ble 1 c) (k (.p id off)) false
  | .so id off len _ => bc (Nat.ble 1 len) (k (.p id off)) false
  | _ => false

theorem evSliceData_ok {P : Program} {ts : Array TypeId} {ty : TypeId} {x : AV} {X : Value} {k : AV → Bool} (he : evSliceData x k = true) (rx : Rv E x X) : ∃ v V, (Builtin.unsafeSliceData_ ts ty #[X]).run P w = .ok V w ∧ Rv E v V ∧ k v = true := by
  unfold evSliceData at he
  split at he <;> try (cases he; done)
  · rw [Rv] at rx; subst rx
    exact ⟨_, _, Lib.run_unsafeSliceData_nil w ts ty 0 0, by rw [Rv], he⟩
  · rename_i id off n c
    obtain ⟨h1, he⟩ := bc_and he
    have h1 := Nat.le_of_ble_eq_true h1
    rw [Rv] at rx
    obtain ⟨L, hL, rfl⟩ := rx
    exact ⟨_, _, Lib.run_unsafeSliceData_row w ts ty _ n c (by omega), by rw [Rv]; exact ⟨L, hL, rfl⟩, he⟩
  · rename_i id off len used
    obtain ⟨h1, he⟩ := bc_and he
    have h1 := Nat.le_of_ble_eq_true h1
    rw [Rv] at rx
    obtain ⟨L, hL, rfl, hroom⟩ := rx
    exact ⟨_, _, Lib.run_unsafeSliceData_row w ts ty _ len (L.room - used) (by omega), by rw [Rv]; exact ⟨L, hL, rfl⟩, he⟩

noncomputable def evUnsafeString (P : Program) (pt : TypeId) (x n : AV) (h : Heap) (nxt : Nat) (k : K) : Bool := match n with
  | .i .i64 z => natOf z fun m => bc (Nat.beq m 0) (match x with
      | .pn => k (.s 0 0) h nxt
      | .p _ _ => k (.s 0 0) h nxt
      | _ => false) (match x with
      | .p id off => (match T.get .gone h id with
        | .cells ext esz c => (match P.underlying pt with
          | some (.pointer e) => (match esz.el with
            | some e' => bc (Nat.beq e e') (bc (Nat.beq (P.cellsOf e) 1) (bc esz.z (bc (Nat.beq off 0) (bc (Nat.ble m ext) (bc (Nat.ble m 1073741824)
                (rdC c m 0 fun l => packL l fun bits => flrOK h id (T.setK .gone h id fun h' => k (.s m bits) h' nxt)) false) false) false) false) false) false
            | none => false)
          | _ => false)
        | _ => false)
      | _ => false)
  | _ => false

theorem evUnsafeString_ok {P : Program} {pt it ty : TypeId} {x n : AV} {X N : Value} {k : K} (he : evUnsafeString P pt x n h nxt k = true) (rx : Rv E x X) (rn : Rv E n N) (hr : HR E h nxt w) :
    Made' P (Builtin.unsafeString_ #[pt, it] ty #[X, N]) E h w k := by
  unfold evUnsafeString at he
  split at he <;> try (cases he; done)
  rename_i z
  obtain ⟨m, rfl, he⟩ := natOf_ok he
  rw [Rv] at rn; subst rn
  rcases bc_or he with ⟨hm, he⟩ | ⟨hm, he⟩
  · have hm := Nat.eq_of_beq_eq_true hm
    subst hm
    have e0 : Value.string .empty = .string (str 0 0) := rfl
    split at he <;> try (cases he; done)
    · rw [Rv] at rx; subst rx
      exact Made'.same hr (Lib.run_unsafeString_none w pt it ty none) (by rw [Rv, e0]) he
    · rw [Rv] at rx
      obtain ⟨L, _, rfl⟩ := rx
      exact Made'.same hr (Lib.run_unsafeString_none w pt it ty _) (by rw [Rv, e0]) he
  · have hm := Nat.ne_of_beq_eq_false hm
    split at he <;> try (cases he; done)
    rename_i id off _ _
    split at he <;> try (cases he; done)
    rename_i ext esz c hc
    split at he <;> try (cases he; done)
    rename_i e hu
    split at he <;> try (cases he; done)
    rename_i e' hel
    obtain ⟨k1, he1⟩ := bc_and he
    obtain ⟨k2, he2⟩ := bc_and he1
    obtain ⟨k3, he3⟩ := bc_and he2
    obtain ⟨k4, he4⟩ := bc_and he3
    obtain ⟨k5, he5⟩ := bc_and he4
    obtain ⟨k6, he6⟩ := bc_and he5
    have k1 := Nat.eq_of_beq_eq_true k1
    have k2 := Nat.eq_of_beq_eq_true k2
    have k4 := Nat.eq_of_beq_eq_true k4
    have k5 := Nat.le_of_ble_eq_true k5
    have k6 := Nat.le_of_ble_eq_true k6
    rw [k1] at hu k2
    rw [rdC_ok] at he6
    rw [Rv] at rx
    obtain ⟨L, hL, rfl⟩ := rx
    obtain ⟨L', arr, el, hL', hb, hsz, hok, hcs⟩ := hr.cells hc
    obtain rfl : L = L' := Option.some.inj (hL.symm.trans hL')
    have hel' := hok.2.1 _ hel
    rw [hel'] at hb
    have hz := hok.2.2 k3
    have hrow : RvL E ((List.range' 0 m).map fun j => c.get j) ((List.range' 0 m).map fun j => arr.getD j undef) := RvL.of_range _ _ fun j _ j2 => by
      have := hcs j (by omega)
      rw [hz] at this
      simpa using this
    obtain ⟨bs, hbs, he7⟩ := packL_ok _ he6 hrow
    obtain ⟨hfl, he8⟩ := flrOK_ok he7
    rw [T.setK_eq] at he8
    have hlen : bs.length = m := by
      have := congrArg List.length hbs
      simpa using this.symm
    have hcell : ∀ j x, bs[j]? = some x → w.cell? ((⟨L.blk, 0, none⟩ : Addr).add j) = some (.int .u8 x.toNat) := fun j x hx => by
      have hj : j < m := by rw [← hlen]; exact (List.getElem?_eq_some_iff.1 hx).1
      have h1 := congrArg (fun l => l[j]?) hbs
      simp only [List.getElem?_map, List.getElem?_range' hj, hx, Option.map_some] at h1
      have h2 : arr.getD j undef = .int .u8 x.toNat := by simpa using h1
      have hj' : j < arr.size := by omega
      rw [addr_add]
      have := cell_of (off := 0 + j) hb (by omega)
      rw [this]
      rw [← h2]
      simp [hj']
    have hlt : L.blk < w.heap.size := hr.inw id L hL
    obtain ⟨f, hfr⟩ : ∃ f : Obj → Obj, w.freeze ⟨L.blk, 0, none⟩ bs.length = { w with heap := w.heap.modify L.blk f } := by
      unfold World.freeze
      rw [if_neg (by omega)]
      exact ⟨_, rfl⟩
    obtain ⟨g1, g2⟩ := hr.turn hc hL hfl f
    have hrun := Lib.run_unsafeString_row w pt it ty e' hu k2 L.blk arr.size (by simp [World.shape?, hb]) bs (by intro e; rw [e] at hlen; exact hm hlen.symm) (by omega) (by omega) hcell
    rw [hfr, hlen] at hrun
    refine ⟨_, _, nxt, E, _, .string ⟨bs.toArray⟩, ?_, ?_, g1, g2, he8⟩
    · rw [hz, k4]
      have : ((Int.ofNat m) : Int) = (m : Int) := rfl
      rw [← hlen] at hrun ⊢
      exact hrun
    · rw [Rv, ← hlen, str_pack]

/-! ### Pointers of package unsafe -/
noncomputable def evToUnsafe (P : Program) (t : TypeId) (x : AV) (h : Heap) (k : AV → Bool) : Bool := match x with
  | .pn => k .pn
  | .p id off => (match T.get .gone h id with
    | .cells n _ _ => (match P.info? t with
      | some i => bc (Nat.ble 1 i.size) (bc (Nat.ble (off + 1) n) (k (.p id off)) false) false
      | none => false)
    | _ => false)
  | _ => false

theorem evToUnsafe_ok {P : Program} {src dst t : TypeId} {x : AV} {X : Value} {k : AV → Bool} (hs : P.underlying src = some (.pointer t)) (hd : P.underlying dst = some .unsafePointer) (he : evToUnsafe P t x h k = true) (rx : Rv E x X) (hr : HR E h nxt w) :
    ∃ v V, (convert src dst X).run P w = .ok V w ∧ Rv E v V ∧ k v = true := by
  unfold evToUnsafe at he
  split at he <;> try (cases he; done)
  · rw [Rv] at rx; subst rx
    exact ⟨_, .pointer none, by simp [convert, Conv.unsafePointer, run_underlying' hs, run_underlying' hd], by rw [Rv], he⟩
  · rename_i id off
    split at he <;> try (cases he; done)
    rename_i n esz c hc
    split at he <;> try (cases he; done)
    rename_i i hi
    obtain ⟨k1, he⟩ := bc_and he
    obtain ⟨k2, he⟩ := bc_and he
    have k1 := Nat.le_of_ble_eq_true k1
    have k2 := Nat.le_of_ble_eq_true k2
    rw [Rv] at rx
    obtain ⟨L, hL, rfl⟩ := rx
    obtain ⟨L', arr, el, hL', hb, hsz, hok, hcs⟩ := hr.cells hc
    obtain rfl : L = L' := Option.some.inj (hL.symm.trans hL')
    refine ⟨_, .pointer (some ⟨L.blk, L.base + off, none⟩), ?_, by rw [Rv]; exact ⟨L, hL, rfl⟩, he⟩
    have h0 : ¬ i.size = 0 := by omega
    have h1 : ¬ (arr.size ≤ L.base + off) := by omega
    have hsh : w.shape? L.blk = some (el, arr.size) := by simp [World.shape?, hb]
    simp [convert, Conv.unsafePointer, run_underlying' hs, run_underlying' hd, Conv.seenAt, viewAt, cellsIn, hsh, run_sizeOf' hi, h0, h1]

theorem rowAt_more (p : Program) (fits : TypeId → Bool) : ∀ (d : Nat) (e : TypeId) (a b off n : Nat), a ≤ b → rowAt p fits d e a off n = true → rowAt p fits d e b off n = true
  | 0, _, _, _, _, _, _, h => by simp [rowAt] at h
  | d + 1, e, a, b, off, n, hab, h => by
    unfold rowAt at h ⊢
    dsimp only at h ⊢
    by_cases hs : p.cellsOf e = 0
    · rw [if_pos hs] at h; cases h
    · rw [if_neg hs] at h ⊢
      rw [Bool.or_eq_true] at h ⊢
      rcases h with h | h
      · left
        simp only [Bool.and_eq_true, decide_eq_true_eq] at h ⊢
        exact ⟨⟨h.1.1, by omega⟩, h.2⟩
      · right
        rw [Bool.and_eq_true] at h ⊢
        refine ⟨?_, h.2⟩
        have := h.1
        simp only [decide_eq_true_eq] at this ⊢
        omega

noncomputable def evOfUnsafe (P : Program) (u : TypeId) (x : AV) (h : Heap) (k : AV → Bool) : Bool := match x with
  | .pn => k .pn
  | .p id off => (match T.get .gone h id with
    | .cells n esz _ => (match esz.el with
      | some e => bc esz.z (bc (rowAt P (fun t => sameLayout P P.depth t u) P.depth e (Nat.div n (P.cellsOf e)) off 1) (match P.info? u with
        | some _ => k (.p id off)
        | none => false) false) false
      | none => false)
    | _ => false)
  | _ => false

theorem evOfUnsafe_ok {P : Program} {src dst u : TypeId} {x : AV} {X : Value} {k : AV → Bool} (hs : P.underlying src = some .unsafePointer) (hd : P.underlying dst = some (.pointer u)) (he : evOfUnsafe P u x h k = true) (rx : Rv E x X) (hr : HR E h nxt w) :
    ∃ v V, (convert src dst X).run P w = .ok V w ∧ Rv E v V ∧ k v = true := by
  unfold evOfUnsafe at he
  split at he <;> try (cases he; done)
  · rw [Rv] at rx; subst rx
    exact ⟨_, .pointer none, by simp [convert, Conv.unsafePointer, run_underlying' hs, run_underlying' hd], by rw [Rv], he⟩
  · rename_i id off
    split at he <;> try (cases he; done)
    rename_i n esz c hc
    split at he <;> try (cases he; done)
    rename_i e hel
    obtain ⟨k1, he⟩ := bc_and he
    obtain ⟨k5, he⟩ := bc_and he
    split at he <;> try (cases he; done)
    rename_i i hi
    rw [Rv] at rx
    obtain ⟨L, hL, rfl⟩ := rx
    obtain ⟨L', arr, el, hL', hb, hsz, hok, hcs⟩ := hr.cells hc
    obtain rfl : L = L' := Option.some.inj (hL.symm.trans hL')
    have hel' := hok.2.1 _ hel
    have hz := hok.2.2 k1
    rw [hel'] at hb
    refine ⟨_, .pointer (some ⟨L.blk, L.base + off, none⟩), ?_, by rw [Rv]; exact ⟨L, hL, rfl⟩, he⟩
    have hsh : w.shape? L.blk = some (e, arr.size) := by simp [World.shape?, hb]
    have hlie : liesAt P P.depth e (arr.size / P.cellsOf e) off u 1 = true := by
      have hd' : P.depth = (2 * (P.types.size + Made.depth) + 1) + 1 := rfl
      have h1 : n / P.cellsOf e ≤ arr.size / P.cellsOf e := Nat.div_le_div_right (by omega)
      have h2 := rowAt_more P (fun t => sameLayout P P.depth t u) P.depth e _ _ off 1 h1 k5
      rw [hd'] at h2 ⊢
      simp only [liesAt, Bool.or_eq_true]
      left
      rw [hd']
      exact h2
    rw [hz, Nat.zero_add]
    have hv : (variablesAt ⟨L.blk, off, none⟩ u 1).run P w = .ok true w := by simp [variablesAt, hsh, hlie]
    simp [convert, Conv.unsafePointer, run_underlying' hs, run_underlying' hd, Conv.seenAt, viewAt, hsh, run_sizeOf' hi, hv]

/-! ### Bytes as a string -/
noncomputable def evBytesStr (P : Program) (e : TypeId) (x : AV) (h : Heap) (k : AV → Bool) : Bool := match P.underlying e with
  | some (.int .u8) => (match x with
    | .sn => k (.s 0 0)
    | .sl id off len _ => (match T.get .gone h id with
      | .cells n _ c => bc (Nat.ble (off + len) n) (rdC c len off fun l => packL l fun bits => k (.s len bits)) false
      | _ => false)
    | .so id off len _ => (match T.get .gone h id with
      | .cells n _ c => bc (Nat.ble (off + len) n) (rdC c len off fun l => packL l fun bits => k (.s len bits)) false
      | _ => false)
    | _ => false)
  | _ => false

theorem fold_push (bs : List UInt8) : ∀ s : ByteArray, (bs.map fun b => ((b.toNat : Nat) : Int)).foldl (fun r n => r.push (UInt8.ofNat n.toNat)) s = ⟨s.data ++ bs.toArray⟩ := by
  induction bs with
  | nil => intro s; simp
  | cons b bs ih =>
    intro s
    rw [List.map_cons, List.foldl_cons, ih]
    apply ByteArray.ext
    simp [ByteArray.push]

theorem evBytesStr_ok {P : Program} {src dst e : TypeId} {x : AV} {X : Value} {k : AV → Bool} (hs : P.underlying src = some (.slice e)) (hd : P.underlying dst = some .string) (he : evBytesStr P e x h k = true) (rx : Rv E x X) (hr : HR E h nxt w) :
    ∃ v V, (convert src dst X).run P w = .ok V w ∧ Rv E v V ∧ k v = true := by
  unfold evBytesStr at he
  split at he <;> try (cases he; done)
  rename_i hu
  have row : ∀ {id off len cap n : Nat} {esz : Esz} {c : Cs} {L : Spot}, E id = some L → T.get .gone h id = .cells n esz c → bc (Nat.ble (off + len) n) (rdC c len off fun l => packL l fun bits => k (.s len bits)) false = true →
      ∃ v V, (convert src dst (.slice (some ⟨L.blk, L.base + off, none⟩) len cap)).run P w = .ok V w ∧ Rv E v V ∧ k v = true := by
    intro id off len cap n esz c L hL hc hk
    obtain ⟨k1, hk⟩ := bc_and hk
    have k1 := Nat.le_of_ble_eq_true k1
    rw [rdC_ok] at hk
    obtain ⟨L', arr, el, hL', hb, hsz, hok, hcs⟩ := hr.cells hc
    obtain rfl : L = L' := Option.some.inj (hL.symm.trans hL')
    have hrow : RvL E ((List.range' off len).map fun j => c.get j) ((List.range' (L.base + off) len).map fun j => arr.getD j undef) := by
      rw [range_shift]; exact RvL.of_range _ _ fun j j1 j2 => hcs j (by omega)
    obtain ⟨bs, hbs, hk⟩ := packL_ok _ hk hrow
    have hlen : bs.length = len := by
      have := congrArg List.length hbs
      simpa using this.symm
    have hload := loadCells_run P hb (L.base + off) len (by omega)
    have hl : (loadCells ⟨L.blk, L.base + off, none⟩ len).run P w = .ok ((bs.map fun b => ((b.toNat : Nat) : Int)).map (Value.int .u8)).toArray w := by
      rw [hload, hbs]; simp [Function.comp_def]
    refine ⟨_, .string ⟨bs.toArray⟩, ?_, ?_, hk⟩
    · rw [run_convert_bytes_string w src dst e _ len cap hs hu hd, run_bytesToString w _ len cap _ hl, fold_push]
      have : (ByteArray.empty.data ++ bs.toArray) = bs.toArray := by
        show #[] ++ bs.toArray = bs.toArray
        simp
      rw [this]
    · rw [Rv, ← hlen, str_pack]
  split at he <;> try (cases he; done)
  · rw [Rv] at rx; subst rx
    refine ⟨_, .string ByteArray.empty, ?_, by rw [Rv]; rfl, he⟩
    rw [run_convert_bytes_string w src dst e none 0 0 hs hu hd]
    simp [Conv.bytesToString]
  · split at he <;> try (cases he; done)
    rename_i hc
    rw [Rv] at rx
    obtain ⟨L, hL, rfl⟩ := rx
    exact row hL hc he
  · split at he <;> try (cases he; done)
    rename_i hc
    rw [Rv] at rx
    obtain ⟨L, hL, rfl, _⟩ := rx
    exact row hL hc he

/-! ### Conversions that look at memory -/
/-- a float that is known to lie among the whole numbers of 64 bits -/
noncomputable def intFit (fs : Facts) (e : SE) : Bool := bc (bc (Nat.beq (look (.cmp .leq e (.lf 0x433fffffffffffff)) fs) 1) (Nat.beq (look (.cmp .geq e (.lf 0xc33fffffffffffff)) fs) 1) false) true (bc (Nat.beq (look (.fn 7 e) fs) 1) (Nat.beq (look (.cmp .eql e e) fs) 1) false)
theorem intFit_ok {fs : Facts} {e : SE} {x : Nat} (he : intFit fs e = true) (hf : Holds E fs) (hd : den E e = some (.float .f64 x)) (hx : x < 18446744073709551616) : (∃ s m i, FloatKind.f64.decode x = .number s m i) ∧ -9007199254740991 ≤ f2i x ∧ f2i x ≤ 9007199254740991 := by
  rcases bc_or he with ⟨h, _⟩ | ⟨_, h⟩
  · obtain ⟨h1, h2⟩ := bc_and h
    have h1 := (look_ok hf).1 (Nat.eq_of_beq_eq_true h1)
    have h2 := (look_ok hf).1 (Nat.eq_of_beq_eq_true h2)
    simp only [den, hd, cmpV] at h1 h2
    refine f2i_between ?_ ?_
    · cases hc : cmpF .leq x 0x433fffffffffffff <;> rw [hc] at h1 <;> simp at h1
      rw [h1]
    · cases hc : cmpF .geq x 0xc33fffffffffffff <;> rw [hc] at h2 <;> simp at h2
      rw [h2]
  · obtain ⟨h1, h2⟩ := bc_and h
    have h1 := (look_ok hf).1 (Nat.eq_of_beq_eq_true h1)
    have h2 := (look_ok hf).1 (Nat.eq_of_beq_eq_true h2)
    simp only [den, hd, apf, Option.some.injEq, Value.bool.injEq] at h1
    simp only [den, hd, cmpV, cmpF, Option.map_some, Option.some.injEq, Value.bool.injEq] at h2
    exact ⟨num_of_may hx h1 h2, f2i_may hx h1 h2⟩
noncomputable def evF2I (P : Program) (dst : TypeId) (e : SE) (h : Heap) (k : AV → Bool) : Bool := match P.underlying dst with
  | some (.int .i64) => bc (intFit (factsOf h) e) (k (.x (.i .i64) (.fn 11 e))) false
  | _ => false
theorem evF2I_ok {P : Program} {src dst : TypeId} {kf : FloatKind} {e : SE} {X : Value} {k : AV → Bool} (hs : P.underlying src = some (.float kf)) (he : evF2I P dst e h k = true) (rx : Rv E (.x .f e) X) (hr : HR E h nxt w) :
    ∃ v V, (convert src dst X).run P w = .ok V w ∧ Rv E v V ∧ k v = true := by
  unfold evF2I at he
  split at he <;> try (cases he; done)
  rename_i hd
  obtain ⟨h1, he⟩ := bc_and he
  simp only [Rv, hasS] at rx
  obtain ⟨hden, x, rfl, hx⟩ := rx
  obtain ⟨⟨s, m, i, hn⟩, l1, l2⟩ := intFit_ok h1 (factsOf_ok hr) hden hx
  have ht : (FloatKind.f64.decode x).toInt .zero = some (f2i x) := by unfold f2i; rw [hn]; rfl
  have e1 : IntKind.i64.min = -9223372036854775808 := rfl
  have e2 : IntKind.i64.max = 9223372036854775807 := rfl
  refine ⟨_, .int .i64 (f2i x), ?_, ?_, he⟩
  · have q1 : IntKind.i64.min ≤ f2i x := by omega
    have q2 : f2i x ≤ IntKind.i64.max := by omega
    exact run_convert_float_int w src dst .f64 .i64 x (f2i x) (by rw [hs]; rfl) hd (by unfold floatToIntVal; rw [ht]; exact if_pos ⟨q1, q2⟩)
  · rw [Rv]
    exact ⟨by simp only [den, hden, apf, hn], _, rfl, by omega, by omega⟩
noncomputable def isF (P : Program) (t : TypeId) : Bool := match P.underlying t with
  | some (.float _) => true
  | _ => false
noncomputable def evConvH (P : Program) (src dst : TypeId) (x : AV) (h : Heap) (k : AV → Bool) : Bool := match P.underlying src with
  | some (.pointer t) => (match P.underlying dst with
    | some .unsafePointer => evToUnsafe P t x h k
    | _ => false)
  | some .unsafePointer => (match P.underlying dst with
    | some (.pointer u) => evOfUnsafe P u x h k
    | _ => false)
  | some (.slice e) => (match P.underlying dst with
    | some .string => evBytesStr P e x h k
    | _ => false)
  | some (.float _) => (match x with
    | .x .f e => bc (isF P dst) (evConv P src dst (.x .f e) k) (evF2I P dst e h k)
    | x => evConv P src dst x k)
  | _ => evConv P src dst x k

theorem evConvH_ok {P : Program} {src dst : TypeId} {x : AV} {X : Value} {k : AV → Bool} (he : evConvH P src dst x h k = true) (rx : Rv E x X) (hr : HR E h nxt w) :
    ∃ v V, (convert src dst X).run P w = .ok V w ∧ Rv E v V ∧ k v = true := by
  unfold evConvH at he
  split at he
  · rename_i t hs
    split at he <;> try (cases he; done)
    rename_i hd
    exact evToUnsafe_ok hs hd he rx hr
  · rename_i hs
    split at he <;> try (cases he; done)
    rename_i u hd
    exact evOfUnsafe_ok hs hd he rx hr
  · rename_i e hs
    split at he <;> try (cases he; done)
    rename_i hd
    exact evBytesStr_ok hs hd he rx hr
  · rename_i kf hs
    split at he
    · rcases bc_or he with ⟨_, he⟩ | ⟨_, he⟩
      · exact evConv_ok he rx
      · exact evF2I_ok hs he rx hr
    · exact evConv_ok he rx
  · exact evConv_ok he rx

/-! ### copy -/
noncomputable def evCopy (P : Program) (dt xt : TypeId) (d y : AV) (h : Heap) (nxt : Nat) (k : K) : Bool := match P.underlying dt with
  | some (.slice el) => (match P.info? el with
    | some i => bc (Nat.ble 1 i.size) (srcK P xt y i.size h fun n l => (match d with
      | .sn => k (.i .i64 (.ofNat 0)) h nxt
      | .sl id off len _ => (match T.get .gone h id with
        | .cells ext esz c => bc (Nat.beq len 0) (k (.i .i64 (.ofNat 0)) h nxt) (bc (Nat.ble n len) (bc (Nat.ble (off + n * i.size) ext) (bc (allLeaf l) (flrOK h id (wrC l c off fun c' => T.setK (.cells ext esz c') h id fun h' => k (.i .i64 (.ofNat n)) h' nxt)) false) false) false)
        | _ => false)
      | .so id off len _ => (match T.get .gone h id with
        | .cells ext esz c => bc (Nat.beq len 0) (k (.i .i64 (.ofNat 0)) h nxt) (bc (Nat.ble n len) (bc (Nat.ble (off + n * i.size) ext) (bc (allLeaf l) (flrOK h id (wrC l c off fun c' => T.setK (.cells ext esz c') h id fun h' => k (.i .i64 (.ofNat n)) h' nxt)) false) false) false)
        | _ => false)
      | _ => false)) false
    | none => false)
  | _ => false

theorem first_none {P : Program} {Y : Value} {n size : Nat} (hy : (Builtin.lenOf Y).run P w = .ok n w) : (Builtin.firstCells size 0 Y).run P w = .ok #[] w := by
  cases Y <;> try (simp [Builtin.lenOf, stuck] at hy; done)
  · rename_i s
    have e : s.extract 0 0 = ByteArray.empty := by
      apply ByteArray.ext
      simp [ByteArray.empty, ByteArray.emptyWithCapacity]
    have e2 : ByteArray.empty.data = #[] := rfl
    simp only [Builtin.firstCells, e, Sem.run_pure, e2, Array.map_empty]
  · rename_i b len c
    cases b
    · rfl
    · simp [Builtin.firstCells, loadCells]; rfl

theorem evCopy_ok {P : Program} {dt xt ty : TypeId} {d y : AV} {D Y : Value} {k : K} (he : evCopy P dt xt d y h nxt k = true) (rd : Rv E d D) (ry : Rv E y Y) (hr : HR E h nxt w) :
    Made' P (Builtin.copy_ #[dt, xt] ty #[D, Y]) E h w k := by
  unfold evCopy at he
  split at he <;> try (cases he; done)
  rename_i el hu
  split at he <;> try (cases he; done)
  rename_i i hi
  obtain ⟨k1, he1⟩ := bc_and he
  have k1 := Nat.le_of_ble_eq_true k1
  obtain ⟨n, l, vs, hy, _, hv, hl, hvs, he2⟩ := srcK_ok he1 ry hr
  clear he he1
  have zero : ∀ {base : Option Addr} {c : Nat}, k (.i .i64 (.ofNat 0)) h nxt = true → D = .slice base 0 c → Made' P (Builtin.copy_ #[dt, xt] ty #[D, Y]) E h w k := by
    intro base c hk hD
    subst hD
    refine Made'.same hr (V := .int .i64 (.ofNat 0)) ?_ (by rw [Rv]) hk
    cases base <;> simp [Builtin.copy_, run_underlying' hu, hy w, run_sizeOf' hi, first_none (hy w), goInt, storeCells]
  have row : ∀ {id off len cap ext : Nat} {esz : Esz} {c : Cs} {L : Spot}, E id = some L → D = .slice (some ⟨L.blk, L.base + off, none⟩) len cap → T.get .gone h id = .cells ext esz c →
      bc (Nat.beq len 0) (k (.i .i64 (.ofNat 0)) h nxt) (bc (Nat.ble n len) (bc (Nat.ble (off + n * i.size) ext) (bc (allLeaf l) (flrOK h id (wrC l c off fun c' => T.setK (.cells ext esz c') h id fun h' => k (.i .i64 (.ofNat n)) h' nxt)) false) false) false) = true →
      Made' P (Builtin.copy_ #[dt, xt] ty #[D, Y]) E h w k := by
    intro id off len cap ext esz c L hL hD hc hk
    rcases bc_or hk with ⟨h0, hk⟩ | ⟨_, hk⟩
    · have h0 := Nat.eq_of_beq_eq_true h0
      subst h0
      exact zero hk hD
    · obtain ⟨q1, hk⟩ := bc_and hk
      obtain ⟨q2, hk⟩ := bc_and hk
      obtain ⟨q3, hk⟩ := bc_and hk
      obtain ⟨hfl, hk⟩ := flrOK_ok hk
      rw [wrC_eq, T.setK_eq] at hk
      have q1 := Nat.le_of_ble_eq_true q1
      have q2 := Nat.le_of_ble_eq_true q2
      obtain ⟨L', arr, el', hL', hb, hsz, hok, hcs⟩ := hr.cells hc
      obtain rfl : L = L' := Option.some.inj (hL.symm.trans hL')
      have hvl : vs.toList.length = n * i.size := by simpa using hvs
      obtain ⟨g1, g2⟩ := hr.write hc (c' := wrCs l c off) (arr' := putL arr (L.base + off) vs.toList) hL hb (by simp) (wrCs_ok l vs.toList c arr _ hl hsz hcs) hfl
      refine ⟨_, _, _, E, _, .int .i64 (.ofNat n), ?_, by rw [Rv], g1, g2, hk⟩
      have hst := storeCells_run P (L := L) (L.base + off) vs.toList 0 w arr hb (by rw [hvl]; omega) (RvL.leaves hl q3)
      simp only [Nat.add_zero] at hst
      have hmin : Nat.min n len = n := Nat.min_eq_left q1
      rw [hD]
      simp [Builtin.copy_, run_underlying' hu, hy w, run_sizeOf' hi, hmin, hv w rfl, hst, goInt]
  split at he2 <;> try (cases he2; done)
  · rw [Rv] at rd; subst rd
    exact zero he2 rfl
  · split at he2 <;> try (cases he2; done)
    rename_i hc
    rw [Rv] at rd
    obtain ⟨L, hL, hD⟩ := rd
    exact row hL hD hc he2
  · split at he2 <;> try (cases he2; done)
    rename_i hc
    rw [Rv] at rd
    obtain ⟨L, hL, hD, _⟩ := rd
    exact row hL hD hc he2

/-! ### clear of a row -/
noncomputable def evClear (P : Program) (t : TypeId) (x : AV) (h : Heap) (nxt : Nat) (k : K) : Bool := match P.underlying t with
  | some (.slice el) => (match P.info? el with
    | some i => (match i.zero with
      | some z => (match x with
        | .sn => k (.tu []) h nxt
        | .sl id off len _ => (match T.get .gone h id with
          | .cells ext esz c => bc (Nat.beq len 0) (k (.tu []) h nxt) (bc (Nat.ble 1 z.cells.size) (bc (Nat.ble (off + len * z.cells.size) ext) (forceL (zerosL (List.map abs1 z.cells.toList) len) fun l => bc (allLeaf l) (flrOK h id (wrC l c off fun c' => T.setK (.cells ext esz c') h id fun h' => k (.tu []) h' nxt)) false) false) false)
          | _ => false)
        | .so id off len _ => (match T.get .gone h id with
          | .cells ext esz c => bc (Nat.beq len 0) (k (.tu []) h nxt) (bc (Nat.ble 1 z.cells.size) (bc (Nat.ble (off + len * z.cells.size) ext) (forceL (zerosL (List.map abs1 z.cells.toList) len) fun l => bc (allLeaf l) (flrOK h id (wrC l c off fun c' => T.setK (.cells ext esz c') h id fun h' => k (.tu []) h' nxt)) false) false) false)
          | _ => false)
        | _ => false)
      | none => false)
    | none => false)
  | _ => false

theorem evClear_ok {P : Program} {t ty : TypeId} {x : AV} {X : Value} {k : K} (he : evClear P t x h nxt k = true) (rx : Rv E x X) (hr : HR E h nxt w) :
    Made' P (Builtin.clear_ #[t] ty #[X]) E h w k := by
  unfold evClear at he
  split at he <;> try (cases he; done)
  rename_i el hu
  split at he <;> try (cases he; done)
  rename_i i hi
  split at he <;> try (cases he; done)
  rename_i z hz
  have zero : ∀ {base : Option Addr} {c : Nat}, k (.tu []) h nxt = true → X = .slice base 0 c → Made' P (Builtin.clear_ #[t] ty #[X]) E h w k := by
    intro base c hk hX
    subst hX
    refine Made'.same hr (V := .tuple #[]) ?_ (by rw [Rv]; exact ⟨[], rfl, .nil⟩) hk
    cases base <;> simp [Builtin.clear_, run_underlying' hu]
  have row : ∀ {id off len cap ext : Nat} {esz : Esz} {c : Cs} {L : Spot}, E id = some L → X = .slice (some ⟨L.blk, L.base + off, none⟩) len cap → T.get .gone h id = .cells ext esz c →
      bc (Nat.beq len 0) (k (.tu []) h nxt) (bc (Nat.ble 1 z.cells.size) (bc (Nat.ble (off + len * z.cells.size) ext) (forceL (zerosL (List.map abs1 z.cells.toList) len) fun l => bc (allLeaf l) (flrOK h id (wrC l c off fun c' => T.setK (.cells ext esz c') h id fun h' => k (.tu []) h' nxt)) false) false) false) = true →
      Made' P (Builtin.clear_ #[t] ty #[X]) E h w k := by
    intro id off len cap ext esz c L hL hX hc hk
    rcases bc_or hk with ⟨h0, hk⟩ | ⟨h0, hk⟩
    · have h0 := Nat.eq_of_beq_eq_true h0
      subst h0
      exact zero hk hX
    · have h0 : len ≠ 0 := fun e => by subst e; cases h0
      obtain ⟨q1, hk⟩ := bc_and hk
      obtain ⟨q2, hk⟩ := bc_and hk
      rw [forceL_eq] at hk
      obtain ⟨q3, hk⟩ := bc_and hk
      obtain ⟨hfl, hk⟩ := flrOK_ok hk
      rw [wrC_eq, T.setK_eq] at hk
      have q1 := Nat.le_of_ble_eq_true q1
      have q2 := Nat.le_of_ble_eq_true q2
      obtain ⟨L', arr, el', hL', hb, hsz, hok, hcs⟩ := hr.cells hc
      obtain rfl : L = L' := Option.some.inj (hL.symm.trans hL')
      have hzz := zeros_ok (E := E) (z := z.cells) (by omega) len
      have hvl : ((Array.range (len * z.cells.size)).map (z.cells[· % z.cells.size]!)).toList.length = len * z.cells.size := by simp
      obtain ⟨g1, g2⟩ := hr.write hc (c' := wrCs (zerosL (List.map abs1 z.cells.toList) len) c off) (arr' := putL arr (L.base + off) ((Array.range (len * z.cells.size)).map (z.cells[· % z.cells.size]!)).toList) hL hb (by simp) (wrCs_ok _ _ c arr _ hzz hsz hcs) hfl
      refine ⟨_, _, _, E, _, .tuple #[], ?_, by rw [Rv]; exact ⟨[], rfl, .nil⟩, g1, g2, hk⟩
      have hst := storeCells_run P (L := L) (L.base + off) ((Array.range (len * z.cells.size)).map (z.cells[· % z.cells.size]!)).toList 0 w arr hb (by rw [hvl]; omega) (RvL.leaves hzz q3)
      simp only [Nat.add_zero] at hst
      rw [hX]
      obtain ⟨m, rfl⟩ : ∃ m, len = m + 1 := ⟨len - 1, by omega⟩
      simp [Builtin.clear_, run_underlying' hu, run_zeroValue' hi hz, Builtin.zeroCells] at hst ⊢
      rw [hst]
      rfl
  split at he <;> try (cases he; done)
  · rw [Rv] at rx
    exact zero he rx
  · split at he <;> try (cases he; done)
    rename_i hc
    rw [Rv] at rx
    obtain ⟨L, hL, hX⟩ := rx
    exact row hL hX hc he
  · split at he <;> try (cases he; done)
    rename_i hc
    rw [Rv] at rx
    obtain ⟨L, hL, hX, _⟩ := rx
    exact row hL hX hc he

/-! ### a new row of bytes that nobody knows -/
noncomputable def extMakeNoZero (P : Program) (rs : Array TypeId) : List AV → Heap → Nat → K → Bool := fun args h nxt k => match args with
  | [.i .i64 z] => natOf z fun n => (match rs[0]? with
    | some t => (match P.underlying t with
      | some (.slice el) => bc (Nat.ble n 1073741824) (T.setK (.cells n ⟨1, some el, true⟩ ⟨1, bigR⟩) h nxt fun h' => forceN (Nat.succ nxt) fun m => k (.so nxt 0 n 0) h' m) false
      | _ => false)
    | none => false)
  | _ => false
end
end Go.Proofs.YtbmekbpgoakkbaaGreatDoor.Vx
