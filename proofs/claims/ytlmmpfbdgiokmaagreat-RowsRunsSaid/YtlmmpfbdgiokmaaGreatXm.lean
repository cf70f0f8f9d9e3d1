/- Maps of ours: making one, putting, looking up, counting. -/
import Derived.Test.YtlmmpfbdgiokmaaGreatXv
namespace Go.Proofs.YtlmmpfbdgiokmaaGreat
open Go.RowKit
set_option linter.unusedSimpArgs false
set_option maxRecDepth 100000
set_option linter.unusedVariables false
section
variable {P : Program} {w : World} {σ : St} {Z : Nat → Prop}
def setMap (w : World) (b : Nat) (es : Array MapEntry) (c : Nat) : World := { w with heap := w.heap.setIfInBounds b (.map es c) }
theorem setMap_same {b c c' : Nat} {es es' : Array MapEntry} (hb : w.heap[b]? = some (.map es c)) : (setMap w b es' c').heap[b]? = some (.map es' c') := by
  have hlt : b < w.heap.size := (Array.getElem?_eq_some_iff.1 hb).1
  simp [setMap, hlt]
theorem setMap_other {b b' c' : Nat} {es' : Array MapEntry} (hne : b' ≠ b) : (setMap w b es' c').heap[b']? = w.heap[b']? := by
  simp [setMap, Ne.symm hne]
theorem HeapOk.alloc_map (h : HeapOk w σ Z) : HeapOk (w.alloc (.map #[] 0)) (σ.put w.heap.size (.map [])) Z := by
  have hg := Grow.alloc h (.map #[] 0) (.map [])
  refine ⟨fun b hu => ?_, fun b hz => ?_, fun b t' cs' hb => ?_, fun b t' k s hb => ?_, fun b es hb => ?_⟩
  · simp only [World.size_alloc]
    rcases hu with hu | rfl
    · have := h.used _ hu; omega
    · omega
  · obtain ⟨h1, h2⟩ := h.z _ hz
    refine ⟨by simp only [World.size_alloc]; omega, ?_⟩
    have hne : b ≠ w.heap.size := by omega
    show (if b = w.heap.size then _ else σ.blk b) = none
    rw [if_neg hne]; exact h2
  · change (if b = w.heap.size then some (Bk.map []) else σ.blk b) = _ at hb
    split at hb
    · injection hb with hb; cases hb
    · obtain ⟨h1, h2, h3⟩ := h.own _ _ _ hb
      exact ⟨.inl h1, (Below.heap_alloc _ _ _ (h.used _ h1)).trans h2, fun c hc => hg.valid (h3 c hc)⟩
  · change (if b = w.heap.size then some (Bk.map []) else σ.blk b) = _ at hb
    split at hb
    · injection hb with hb; cases hb
    · obtain ⟨h1, cs', h2, h3⟩ := h.tail _ _ _ _ hb
      exact ⟨.inl h1, cs', (Below.heap_alloc _ _ _ (h.used _ h1)).trans h2, h3⟩
  · change (if b = w.heap.size then some (Bk.map []) else σ.blk b) = _ at hb
    split at hb
    · rename_i hbb
      injection hb with hb
      injection hb with hb
      subst hb hbb
      exact ⟨.inr rfl, #[], 0, heap_alloc_new _ _, rfl⟩
    · obtain ⟨h1, a, c, h2, h3⟩ := h.map _ _ hb
      exact ⟨.inl h1, a, c, (Below.heap_alloc _ _ _ (h.used _ h1)).trans h2, h3⟩
theorem HeapOk.write_map (hH : HeapOk w σ Z) {b c c' : Nat} {es : List (Value × Value)} {a a' : Array MapEntry} (hb : σ.blk b = some (.map es)) (hh : w.heap[b]? = some (.map a c)) :
    HeapOk (setMap w b a' c') (σ.set b (.map (a'.toList.map fun e : MapEntry => (e.key, e.val)))) Z ∧ Grow w σ (setMap w b a' c') (σ.set b (.map (a'.toList.map fun e : MapEntry => (e.key, e.val)))) := by
  obtain ⟨hu, _⟩ := hH.map _ _ hb
  have hg : Grow w σ (setMap w b a' c') (σ.set b (.map (a'.toList.map fun e : MapEntry => (e.key, e.val)))) := by
    refine ⟨rfl, rfl, rfl, by simp [setMap], fun _ _ h => h, fun b' hb' hn' => ?_, fun b' t' k s hb' ht' => ?_, fun _ h => h⟩
    · have hne : b' ≠ b := by rintro rfl; rw [hb] at hn'; cases hn'
      exact ⟨setMap_other hne, by show (if b' = b then _ else σ.blk b') = _; rw [if_neg hne]; exact hn'⟩
    · have hne : b' ≠ b := by rintro rfl; rw [hb] at ht'; cases ht'
      refine ⟨fun j v _ hv => ?_, .inr ⟨t', k, s, ?_, Nat.le_refl _⟩⟩
      · rw [World.cell?_of_block (w := w) (setMap_other hne)]; exact hv
      · show (if b' = b then _ else σ.blk b') = _
        rw [if_neg hne]; exact ht'
  refine ⟨⟨fun b' hu' => ?_, fun b' hz => ?_, fun b' t' cs2 hb' => ?_, fun b' t' k s hb' => ?_, fun b' es' hb' => ?_⟩, hg⟩
  · have := hH.used _ hu'; simpa [setMap] using this
  · obtain ⟨z1, z2⟩ := hH.z _ hz
    have hne : b' ≠ b := by rintro rfl; rw [hb] at z2; cases z2
    refine ⟨by simpa [setMap] using z1, ?_⟩
    show (if b' = b then _ else σ.blk b') = _
    rw [if_neg hne]; exact z2
  · change (if b' = b then _ else σ.blk b') = _ at hb'
    split at hb'
    · injection hb' with hb'; cases hb'
    · rename_i hne
      obtain ⟨g1, g2, g3⟩ := hH.own _ _ _ hb'
      exact ⟨g1, (setMap_other hne).trans g2, fun c hc => hg.valid (g3 c hc)⟩
  · change (if b' = b then _ else σ.blk b') = _ at hb'
    split at hb'
    · injection hb' with hb'; cases hb'
    · rename_i hne
      obtain ⟨g1, cs2, g2, g3⟩ := hH.tail _ _ _ _ hb'
      exact ⟨g1, cs2, (setMap_other hne).trans g2, g3⟩
  · change (if b' = b then _ else σ.blk b') = _ at hb'
    split at hb'
    · rename_i hbb
      injection hb' with hb'
      injection hb' with hb'
      subst hb' hbb
      exact ⟨hu, a', c', setMap_same hh, rfl⟩
    · rename_i hne
      obtain ⟨g1, a2, c2, g2, g3⟩ := hH.map _ _ hb'
      exact ⟨g1, a2, c2, (setMap_other hne).trans g2, g3⟩
end
variable {T : Nat → Type} {A : Type}
section
variable {U : Nat → Prop} {C : Codec T} {N : Nat} {ρ ρ' : Nat → AV} {P : Program} {h h1 : List (HI T)} {d : Option Nat} {ty t t' : TypeId} {pos : String} {af : Array Edge} {g : Option (Nat × Bool)} {z : A} {k : XV T → List (HI T) → Option A} {vs : List (XV T)} {σ τ : St} {b : Nat}
theorem mapv_inj {b c : Nat} (h : mapv b = mapv c) : b = c := by
  unfold mapv at h
  injection h with h
  injection h with h
  injection h with h
/-- A new map. -/
theorem Hp.newMap (H : Hp C ρ h σ) (hb : ¬ σ.used b) (hn : σ.blk b = none) (K V : MK) :
    Hp C (rup ρ h.length (mapv b)) (h ++ [.mmap K V []]) (σ.put b (.map [])) ∧ Rel U ρ h σ (rup ρ h.length (mapv b)) (h ++ [.mmap K V []]) (σ.put b (.map [])) ∧ SV C (h ++ [HI.mmap K V []]).length (rup ρ h.length (mapv b)) (.mo h.length) (mapv b) := by
  have hext : ∀ i, i < h.length → rup ρ h.length (mapv b) i = ρ i := fun i hi => rup_other (by omega)
  have hlen : h.length ≤ (h ++ [HI.mmap K V []]).length := by simp
  have hnew : ∀ i x c, h[i]? = some x → x.alive = true → (ρ i).owns c → c ≠ b := fun i x c h1 h2 h3 e => by
    subst e
    exact hb (H.used ⟨i, x, h1, h2, h3⟩)
  have hsh : ∀ i x, h[i]? = some x → SH C (h ++ [HI.mmap K V []]).length (rup ρ h.length (mapv b)) (σ.put b (.map [])) i x := fun i x hx => by
    have hi := lt_of_get hx
    have := H.it i x hx
    cases x with
    | obj t' cs' =>
      obtain ⟨b', acs', h1, h2, h3, h4⟩ := this
      have hne : b' ≠ b := hnew i _ b' hx rfl (by rw [h1]; rfl)
      exact ⟨b', acs', (hext i hi).trans h1, by rw [put_other _ _ hne]; exact h2, .inl h3, h4.ext hlen hext⟩
    | mmap K V es =>
      obtain ⟨b', h1, h2, h3⟩ := this
      have hne : b' ≠ b := hnew i _ b' hx rfl (by rw [h1]; rfl)
      exact ⟨b', (hext i hi).trans h1, by rw [put_other _ _ hne]; exact h2, .inl h3⟩
    | arr e E kp xs =>
      rcases this with ⟨b', K', pre, rest, h1, h2, h3, h4⟩ | ⟨h1, h2⟩
      · have hne : b' ≠ b := hnew i _ b' hx rfl (by rw [h1]; rfl)
        exact .inl ⟨b', K', pre, rest, (hext i hi).trans h1, by rw [put_other _ _ hne]; exact h2, .inl h3, h4⟩
      · exact .inr ⟨(hext i hi).trans h1, h2⟩
    | row e sz =>
      obtain ⟨n, cs', ho⟩ := this
      exact ⟨n, cs', by rw [hext i hi]; exact ho.ext (Ext.put _ hn)⟩
    | gen E x =>
      show C.gsh E x _ (rup ρ h.length (mapv b) i)
      rw [hext i hi]
      exact C.gsh_but _ _ _ _ _ (fun _ => False) this (Ext.put _ hn).but (fun _ _ hf => hf)
    | dead => trivial
  refine ⟨⟨fun i x hx => ?_, fun i j x y c hx hy ax ay bx by_ => ?_⟩, ⟨hlen, hext, (Ext.put _ hn).but, fun c hc => ?_⟩, .mo _ b (by simp) (rup_same _ _ _) .none⟩
  · rcases get_app hx with ⟨rfl, rfl⟩ | ⟨hi, hx⟩
    · exact ⟨b, rup_same _ _ _, put_same _ _ _, .inr rfl⟩
    · exact hsh i x hx
  · rcases get_app hx with ⟨rfl, rfl⟩ | ⟨hi, hx⟩ <;> rcases get_app hy with ⟨rfl, rfl⟩ | ⟨hj, hy⟩
    · rfl
    · rw [rup_same] at bx; injection bx with bx; subst bx
      rw [hext j hj] at by_
      exact absurd rfl (hnew j y _ hy ay by_)
    · rw [rup_same] at by_; injection by_ with by_; subst by_
      rw [hext i hi] at bx
      exact absurd rfl (hnew i x _ hx ax bx)
    · rw [hext i hi] at bx; rw [hext j hj] at by_
      exact H.dist i j x y c hx hy ax ay bx by_
  · obtain ⟨i, x, hx, ax, bx⟩ := hc
    rcases get_app hx with ⟨rfl, rfl⟩ | ⟨hi, hx⟩
    · rw [rup_same] at bx; injection bx with bx; subst bx
      exact .inr ⟨hn, hb⟩
    · rw [hext i hi] at bx
      exact .inl ⟨i, x, hx, ax, bx⟩
/-- A map is written. -/
theorem Hp.writeMap (H : Hp C ρ h σ) {i : Nat} (hU : U i) {K V : MK} {es es' : List (K.ty × V.ty)} (hi : h[i]? = some (.mmap K V es)) (hb : ρ i = mapv b) :
    Hp C ρ (h.set i (.mmap K V es')) (σ.set b (.map (es'.map fun p => (K.val p.1, V.val p.2)))) ∧ Rel U ρ h σ ρ (h.set i (.mmap K V es')) (σ.set b (.map (es'.map fun p => (K.val p.1, V.val p.2)))) := by
  obtain ⟨b0, e0, hb0, hu0⟩ := H.it i _ hi
  rw [hb] at e0
  have hbb := (mapv_inj e0).symm
  subst hbb
  have hoth : ∀ j x c, h[j]? = some x → x.alive = true → j ≠ i → (ρ j).owns c → c ≠ b0 := fun j x c h1 h2 h3 h4 e => by
    subst e
    exact h3 (H.dist j i x _ c h1 hi h2 rfl h4 (by rw [hb]; rfl))
  have hset : ∀ c, c ≠ b0 → (σ.set b0 (.map (es'.map fun p => (K.val p.1, V.val p.2)))).blk c = σ.blk c := fun c hc => by show (if c = b0 then _ else σ.blk c) = _; rw [if_neg hc]
  have hbut : But (fun c => c = b0) σ (σ.set b0 (.map (es'.map fun p => (K.val p.1, V.val p.2)))) := ⟨fun c k hc hk => (hset c hc).trans hk, fun c hc => hc⟩
  have hliv : ∀ c, Liv ρ (h.set i (.mmap K V es')) c → Liv ρ h c := fun c ⟨j, x, hx, ax, bx⟩ => by
    rcases get_set hx with ⟨rfl, rfl, _⟩ | ⟨_, hx⟩
    · exact ⟨j, _, hi, rfl, bx⟩
    · exact ⟨j, x, hx, ax, bx⟩
  refine ⟨⟨fun j x hx => ?_, fun j k x y c hx hy ax ay bx by_ => ?_⟩, ⟨by simp, fun _ _ => rfl, ⟨fun c k hc hk => hbut.keep c k (fun e => hc ⟨i, _, hU, hi, rfl, by rw [hb, e]; rfl⟩) hk, fun c hc => hc⟩, fun c hc => .inl (hliv c hc)⟩⟩
  · rw [List.length_set]
    rcases get_set hx with ⟨rfl, rfl, _⟩ | ⟨hne, hx⟩
    · exact ⟨b0, hb, by show (if b0 = b0 then _ else σ.blk b0) = _; rw [if_pos rfl], hu0⟩
    · have := H.it j x hx
      cases x with
      | obj t' cs' =>
        obtain ⟨b', acs2, h1, h2, h3, h4⟩ := this
        exact ⟨b', acs2, h1, (hset b' (hoth j _ b' hx rfl hne (by rw [h1]; rfl))).trans h2, h3, h4⟩
      | mmap K' V' es2 =>
        obtain ⟨b', h1, h2, h3⟩ := this
        exact ⟨b', h1, (hset b' (hoth j _ b' hx rfl hne (by rw [h1]; rfl))).trans h2, h3⟩
      | arr e E kp xs =>
        rcases this with ⟨b', K', pre, rest, h1, h2, h3, h4⟩ | ⟨h1, h2⟩
        · exact .inl ⟨b', K', pre, rest, h1, (hset b' (hoth j _ b' hx rfl hne (by rw [h1]; rfl))).trans h2, h3, h4⟩
        · exact .inr ⟨h1, h2⟩
      | row e sz =>
        obtain ⟨n, cs', ho'⟩ := this
        exact ⟨n, cs', ho'.but' hbut fun g hg => hoth j _ g hx rfl hne hg⟩
      | gen E x => exact C.gsh_but _ _ _ _ _ _ this hbut (fun b' hb' => hoth j _ b' hx rfl hne hb')
      | dead => trivial
  · rcases get_set hx with ⟨e1, e2, _⟩ | ⟨hne, hx2⟩ <;> rcases get_set hy with ⟨e3, e4, _⟩ | ⟨hne2, hy2⟩
    · rw [e1, e3]
    · subst e1; exact H.dist j k _ y c hi hy2 rfl ay bx by_
    · subst e3; exact H.dist j k x _ c hx2 hi ax rfl bx by_
    · exact H.dist j k x y c hx2 hy2 ax ay bx by_
/-- The types. -/
def KeyT (P : Program) (t : TypeId) : MK → Prop
  | .str => P.underlying t = some .string
  | .int k => P.underlying t = some (.int k)
  | .two k j => ∃ fs f g, P.underlying t = some (.struct fs) ∧ fs.toList = [f, g] ∧ P.underlying f.type = some (.int k) ∧ P.underlying g.type = some (.int j) ∧ f.name ≠ "_" ∧ g.name ≠ "_" ∧ f.offset = 0 ∧ g.offset = 1 ∧ kindsA P 8 t = some [.i k, .i j]
theorem mkindA_key {K : MK} (h : mkindA P t = some K) : KeyT P t K := by
  unfold mkindA at h
  split at h
  · injection h with h; subst h; assumption
  · injection h with h; subst h; assumption
  · rename_i fs hu
    split at h
    · rename_i f g k j hl hk
      split at h
      · rename_i k' j' hf hg
        split at h
        · rename_i hc
          obtain ⟨e1, e2, n1, n2, o1, o2⟩ := hc
          subst e1 e2
          injection h with h
          subst h
          exact ⟨fs, f, g, hu, hl, hf, hg, n1, n2, o1, o2, hk⟩
        · cases h
      · cases h
    · cases h
  · cases h
theorem zOk_eq {V : MK} {o : Option Value} (h : V.zOk o = true) : o = some (V.val V.zero) := by
  cases V with
  | str => cases o with
    | none => cases h
    | some v => cases v with
      | string s =>
        have h : Nat.beq s.data.toList.length 0 = true := h
        have h := Nat.eq_of_beq_eq_true h
        have : s = ⟨([] : List UInt8).toArray⟩ := by
          cases s with | mk d => congr 1; cases d with | mk l => simpa using h
        rw [this]; rfl
      | _ => cases h
  | int k0 => cases o with
    | none => cases h
    | some v => cases v with
      | int k1 n =>
        have h : (decide (k0 = k1) && decide (n = 0)) = true := h
        simp only [Bool.and_eq_true, decide_eq_true_eq] at h
        obtain ⟨e1, e2⟩ := h
        subst e1 e2
        rfl
      | _ => cases h
  | two k j => cases o <;> cases h
theorem mapKV_spec {K V : MK} (h : mapKV P t = some (K, V)) : ∃ kt et, P.underlying t = some (.map kt et) ∧ KeyT P kt K ∧ KeyT P et V ∧ zeroA P et = some (V.val V.zero) := by
  unfold mapKV at h
  split at h
  rotate_left
  · cases h
  rename_i kt et ht
  split at h
  rotate_left
  · cases h
  rename_i K' V' hK hV
  rw [cond_eq_ite] at h
  split at h
  rotate_left
  · cases h
  rename_i hz
  injection h with h
  injection h with e1 e2
  subst e1 e2
  exact ⟨kt, et, ht, mkindA_key hK, mkindA_key hV, zOk_eq hz⟩
theorem of_sv {K : MK} {x : XV T} {y : K.ty} (h : K.of x = some y) {a : AV} (hs : SV C N ρ x a) : a.val = K.val y := by
  cases K with
  | str => cases x with
    | str s => injection h with h; subst h; rw [sv_str.1 hs]; rfl
    | _ => cases h
  | int k0 => cases x with
    | int k1 n =>
      unfold MK.of at h
      dsimp only at h
      split at h
      · rename_i e; injection h with h; subst h; subst e; rw [sv_int.1 hs]; rfl
      · cases h
    | _ => cases h
  | two k0 j0 => cases x with
    | agg l =>
      rcases l with _ | ⟨c, _ | ⟨d, _ | ⟨e, l⟩⟩⟩
      · cases h
      · cases c <;> cases h
      · cases c with
        | int k1 a1 => cases d with
          | int j1 b1 =>
            have h : (if k0 = k1 ∧ j0 = j1 then some ((a1, b1) : Int × Int) else none) = some y := h
            split at h
            · rename_i e
              injection h with h
              subst h
              obtain ⟨rfl, rfl⟩ := e
              obtain ⟨ls, rfl, hl⟩ := sv_agg.1 hs
              obtain ⟨p, q, rfl, h1, h2⟩ := svs2.1 hl
              rw [sv_int.1 h1, sv_int.1 h2]
              simp [MK.val]
            · cases h
          | _ => cases h
        | _ => cases h
      · cases c <;> first | (cases h; done) | (cases d <;> cases h)
    | _ => cases h
theorem xv_sv (V : MK) (y : V.ty) : ∃ r : AV, (∀ N ρ, SV C N ρ (V.xv y) r) ∧ r.val = V.val y ∧ ∀ w B, Valid w B r := by
  cases V with
  | str => exact ⟨_, fun N ρ => sv_str.2 rfl, rfl, fun w B => valid_raw _⟩
  | int k0 => exact ⟨_, fun N ρ => sv_int.2 rfl, rfl, fun w B => valid_raw _⟩
  | two k j => exact ⟨.agg [.raw (.int k y.1), .raw (.int j y.2)], fun N ρ => sv_agg.2 ⟨_, rfl, svs2.2 ⟨_, _, rfl, sv_int.2 rfl, sv_int.2 rfl⟩⟩, by simp [MK.val], fun w B => by unfold Valid; exact Valids.iff.2 (by simp [valid_raw])⟩
theorem bytes_beq (a b : List UInt8) : ((ByteArray.mk a.toArray) == (ByteArray.mk b.toArray)) = decide (a = b) := by
  show (a.toArray == b.toArray) = _
  by_cases h : a = b
  · subst h; simp
  · rw [decide_eq_false h]
    rw [beq_eq_false_iff_ne]
    intro e
    exact h (by simpa using congrArg Array.toList e)
theorem eqb_eq {K : MK} {x y : K.ty} (h : K.eqb x y = true) : x = y := by
  cases K with
  | str => exact of_decide_eq_true h
  | int k0 => exact of_decide_eq_true h
  | two k j =>
    have h : (decide ((show Int × Int from x).1 = (show Int × Int from y).1) && decide ((show Int × Int from x).2 = (show Int × Int from y).2)) = true := h
    simp only [Bool.and_eq_true, decide_eq_true_eq] at h
    exact Prod.ext h.1 h.2
theorem run_part_int {t : TypeId} {k : IntKind} {xs : Array Value} {o : Nat} {v : Value} {w : World} (hu : P.underlying t = some (.int k)) (hx : xs[o]? = some v) : (part t xs o).run P w = .ok v w := by
  simp [part, isAgg, run_underlying hu, hx]
theorem check_mk {K : MK} {kt : TypeId} {w : World} {y : K.ty} (hk : KeyT P kt K) (e : Bool) : (Instr.checkKey e 10000 kt (K.val y)).run P w = .ok () w := by
  rw [show (10000 : Nat) = 9999 + 1 from rfl]
  cases K with
  | str => unfold Instr.checkKey; rw [Sem.run_bind, run_underlying hk]; rfl
  | int k0 => unfold Instr.checkKey; rw [Sem.run_bind, run_underlying hk]; rfl
  | two k j =>
    obtain ⟨fs, f, g, hu, hl, hf, hg, n1, n2, o1, o2, _⟩ := hk
    obtain ⟨fa⟩ := fs
    dsimp only at hl
    subst hl
    have c1 : (Instr.checkKey e 9999 f.type (.int k y.1)).run P w = .ok () w := by
      rw [show (9999 : Nat) = 9998 + 1 from rfl]; unfold Instr.checkKey; rw [Sem.run_bind, run_underlying hf]; rfl
    have c2 : (Instr.checkKey e 9999 g.type (.int j y.2)).run P w = .ok () w := by
      rw [show (9999 : Nat) = 9998 + 1 from rfl]; unfold Instr.checkKey; rw [Sem.run_bind, run_underlying hg]; rfl
    have p1 : (part f.type #[.int k y.1, .int j y.2] f.offset).run P w = .ok (.int k y.1) w := run_part_int hf (by rw [o1]; rfl)
    have p2 : (part g.type #[.int k y.1, .int j y.2] g.offset).run P w = .ok (.int j y.2) w := run_part_int hg (by rw [o2]; rfl)
    unfold Instr.checkKey
    rw [Sem.run_bind, run_underlying hu]
    simp [MK.val, n1, n2, p1, p2, c1, c2, Result.andThen]
/-- The first entry of a key. -/
def fndV (K V : MK) (x : K.ty) : List (K.ty × V.ty) → Nat → Option (Nat × Value)
  | [], _ => none
  | p :: es, i => bif K.eqb x p.1 then some (i, V.val p.2) else fndV K V x es (i + 1)
theorem find_mk {K V : MK} {x : K.ty} : ∀ {es : List (K.ty × V.ty)} {l : List MapEntry} (i : Nat), l.map (fun e : MapEntry => (e.key, e.val)) = es.map (fun p => (K.val p.1, V.val p.2)) →
    (mget K es x = none ∧ fndV K V x es i = none ∧ ∀ v, mput K es x v = es ++ [(x, v)]) ∨
      ∃ j y, mget K es x = some y ∧ fndV K V x es i = some (i + j, V.val y) ∧ (l[j]?).map (·.key) = some (K.val x) ∧ ∀ v f, (∀ e : MapEntry, ((f e).key, (f e).val) = (K.val x, V.val v)) → (l.modify j f).map (fun e : MapEntry => (e.key, e.val)) = (mput K es x v).map (fun p => (K.val p.1, V.val p.2))
  | [], [], i, _ => .inl ⟨rfl, rfl, fun v => rfl⟩
  | [], e :: l, i, h => by simp at h
  | p :: es, [], i, h => by simp at h
  | p :: es, e :: l, i, h => by
    simp only [List.map_cons, List.cons.injEq] at h
    obtain ⟨h1, h2⟩ := h
    injection h1 with h1 h3
    unfold mget mput fndV
    cases hp : K.eqb x p.1 with
    | true =>
      have hx := eqb_eq hp
      refine .inr ⟨0, p.2, rfl, rfl, by simp [h1, hx], fun v f hf => ?_⟩
      simp [List.modify, h2, hf e]
    | false =>
      rcases find_mk (x := x) (i + 1) h2 with ⟨g1, g2, g3⟩ | ⟨j, y, g1, g2, g3, g4⟩
      · exact .inl ⟨g1, g2, fun v => by dsimp only [cond]; rw [g3 v]; rfl⟩
      · refine .inr ⟨j + 1, y, g1, by rw [show i + (j + 1) = i + 1 + j from by omega]; exact g2, by simpa using g3, fun v f hf => ?_⟩
        dsimp only [cond]
        rw [List.modify_succ_cons, List.map_cons, List.map_cons, g4 v f hf, h1, h3]
theorem now_mk {K V : MK} {d : TypeDesc} {x : K.ty} (hd : ∀ y : K.ty, Instr.sameNow d (K.val x) (K.val y) = some (K.eqb x y)) : ∀ {es : List (K.ty × V.ty)} {l : List MapEntry} (i : Nat), l.map (fun e : MapEntry => (e.key, e.val)) = es.map (fun p => (K.val p.1, V.val p.2)) → Instr.findNow d (K.val x) l i = some (fndV K V x es i)
  | [], [], i, _ => rfl
  | [], e :: l, i, h => by simp at h
  | p :: es, [], i, h => by simp at h
  | p :: es, e :: l, i, h => by
    simp only [List.map_cons, List.cons.injEq] at h
    obtain ⟨h1, h2⟩ := h
    injection h1 with h1 h3
    unfold fndV Instr.findNow
    rw [h1, hd]
    cases hp : K.eqb x p.1 with
    | true => rw [h3]; rfl
    | false => exact now_mk hd (i + 1) h2
theorem ask_mk {K V : MK} {kt : TypeId} {x : K.ty} {w : World} (hd : ∀ y : K.ty, (Op.equal kt (K.val x) (K.val y)).run P w = .ok (K.eqb x y) w) : ∀ {es : List (K.ty × V.ty)} {l : List MapEntry} (i : Nat), l.map (fun e : MapEntry => (e.key, e.val)) = es.map (fun p => (K.val p.1, V.val p.2)) → (Instr.findAsking kt (K.val x) l i).run P w = .ok (fndV K V x es i) w
  | [], [], i, _ => rfl
  | [], e :: l, i, h => by simp at h
  | p :: es, [], i, h => by simp at h
  | p :: es, e :: l, i, h => by
    simp only [List.map_cons, List.cons.injEq] at h
    obtain ⟨h1, h2⟩ := h
    injection h1 with h1 h3
    unfold fndV Instr.findAsking
    rw [h1, Sem.run_bind, hd]
    cases hp : K.eqb x p.1 with
    | true => rw [h3]; rfl
    | false => exact ask_mk hd (i + 1) h2
theorem equal_two {kt : TypeId} {k j : IntKind} {w : World} (hk : KeyT P kt (.two k j)) (x y : Int × Int) : (Op.equal kt (MK.val (.two k j) x) (MK.val (.two k j) y)).run P w = .ok (MK.eqb (.two k j) x y) w := by
  obtain ⟨fs, f, g, hu, hl, hf, hg, n1, n2, o1, o2, hks⟩ := hk
  have hA : aggA P kt = some true := by unfold aggA; rw [hu]; rfl
  have hE := run_equalA (P := P) (10000 - 8) 8 kt _ hks
  obtain ⟨r, hr, hiff⟩ := hE w (MK.val (.two k j) x) (MK.val (.two k j) y) (.inl ⟨_, rfl, hA, ⟨⟨_, rfl⟩, ⟨_, rfl⟩, trivial⟩⟩) (.inl ⟨_, rfl, hA, ⟨⟨_, rfl⟩, ⟨_, rfl⟩, trivial⟩⟩)
  rw [show (10000 - 8 + 8 : Nat) = 10000 from rfl] at hr
  show (Op.equalIn 10000 kt _ _).run P w = _
  rw [hr]
  congr 1
  have e : MK.eqb (.two k j) x y = (decide (x.1 = y.1) && decide (x.2 = y.2)) := rfl
  rw [e]
  simp only [MK.val, Value.cells] at hiff
  cases r <;> simp_all
theorem key_mk {K V : MK} {kt : TypeId} {w : World} {x : K.ty} {es : List (K.ty × V.ty)} {l : List MapEntry} (hk : KeyT P kt K) (h : l.map (fun e : MapEntry => (e.key, e.val)) = es.map (fun p => (K.val p.1, V.val p.2))) : (Instr.findKey kt (K.val x) l).run P w = .ok (fndV K V x es 0) w := by
  cases K with
  | str =>
    unfold Instr.findKey
    rw [Sem.run_bind, run_underlying hk]
    dsimp only [Result.andThen]
    rw [show Instr.findNow .string (MK.val .str x) l 0 = some (fndV .str V x es 0) from now_mk (K := .str) (V := V) (d := .string) (x := x) (es := es) (fun y => congrArg some (bytes_beq x y)) 0 h]
    rfl
  | int k0 =>
    unfold Instr.findKey
    rw [Sem.run_bind, run_underlying hk]
    dsimp only [Result.andThen]
    rw [show Instr.findNow (.int k0) (MK.val (.int k0) x) l 0 = some (fndV (.int k0) V x es 0) from now_mk (K := .int k0) (V := V) (d := .int k0) (x := x) (es := es) (fun y => by
      show (if k0 = k0 then some ((show Int from x) == y) else none) = some (decide ((show Int from x) = y))
      rw [if_pos rfl]
      congr 1) 0 h]
    rfl
  | two k j =>
    have hu := hk
    obtain ⟨fs, f, g, hu, _⟩ := hu
    unfold Instr.findKey
    rw [Sem.run_bind, run_underlying hu]
    dsimp only [Result.andThen]
    cases l with
    | nil => cases es with
      | nil => rfl
      | cons p es => simp at h
    | cons e l =>
      have : Instr.findNow (.struct fs) (MK.val (.two k j) x) (e :: l) 0 = none := by
        unfold Instr.findNow
        rfl
      rw [this]
      exact ask_mk (K := .two k j) (V := V) (es := es) (fun y => equal_two hk x y) 0 h
theorem stays_mk {K : MK} {w : World} {x : K.ty} : (Instr.keyThatStays (K.val x) (K.val x)).run P w = .ok (K.val x) w := by
  have : Instr.sameBits 10000 (K.val x) (K.val x) = true := by
    cases K with
    | str =>
      show ((ByteArray.mk (List.toArray x)) == (ByteArray.mk (List.toArray x))) = true
      rw [bytes_beq]; simp
    | int k0 => simp [MK.val, Instr.sameBits]
    | two k j => simp [MK.val, Instr.sameBits]
  unfold Instr.keyThatStays
  rw [if_pos this]
  rfl
theorem get_mk {w : World} {a : Array MapEntry} {c : Nat} (hb : w.heap[b]? = some (.map a c)) : (getObj b).run P w = .ok (.map a c) w := by
  simp [getObj, Sem.run, hb]
theorem set_mk {w : World} {a a' : Array MapEntry} {c c' : Nat} (hb : w.heap[b]? = some (.map a c)) : (setObj b (.map a' c')).run P w = .ok () (setMap w b a' c') := by
  simp [setObj, Sem.run, hb, setMap]
theorem snd_mmake {K V : MK} (hm : mapKV P t = some (K, V)) (hk : k (.mo h.length) (h ++ [.mmap K V []]) = some z) : Sound C P U ⟨d, .makeMap t none, ty, pos, af, g⟩ [] h k z := by
  refine ⟨_, _, hk, fun ρ σ as_ hs H => ?_⟩
  have := SVs_nil.1 hs
  subst this
  refine .inr ⟨rfl, fun ρv hρ w Z hH hV => ?_⟩
  obtain ⟨f1, f2⟩ := hH.fresh
  obtain ⟨g1, g2, g3⟩ := H.newMap (U := U) f1 f2 K V
  refine ⟨mapv w.heap.size, _, w.alloc (.map #[] 0), .inl ?_, ⟨_, g3, g1, g2⟩, hH.alloc_map, valid_raw _, Grow.alloc hH _ _⟩
  have : (Instr.makeMap t none).run P w = .ok (.map (some w.heap.size)) (w.alloc (.map #[] 0)) := rfl
  simp [execOp, this, mapv]
theorem snd_mput {i : Nat} {x v : XV T} {om ox ov : Operand} (hU : U i) (hk : xmput P t i x v h k = some z) : Sound C P U ⟨d, .mapUpdate t om ox ov, ty, pos, af, g⟩ [.mo i, x, v] h k z := by
  unfold xmput at hk
  split at hk
  rotate_left
  · cases hk
  rename_i K V es hi
  split at hk
  rotate_left
  · cases hk
  rename_i K' V' hm
  split at hk
  rotate_left
  · cases hk
  rename_i hKV
  obtain ⟨e1, e2⟩ := hKV
  subst e1 e2
  obtain ⟨a, ha, hk⟩ := obind hk
  obtain ⟨b, hb, hk⟩ := obind hk
  rw [hforce_eq] at hk
  obtain ⟨kt, et, t1, t2, t3, t4⟩ := mapKV_spec hm
  refine ⟨_, _, hk, fun ρ σ as_ hs H => ?_⟩
  obtain ⟨am, ax, av, rfl, s1, s2, s3⟩ := svs3.1 hs
  obtain ⟨bm, rfl, s4, s5⟩ := sv_mo.1 s1
  have s2 := of_sv ha s2
  have s3 := of_sv hb s3
  refine .inr ⟨rfl, fun ρv hρ w Z hH hV => ?_⟩
  have hρ' := hρ
  simp [Op.operands, mapv] at hρ'
  obtain ⟨r1, r2, r3⟩ := hρ'
  rw [s2] at r2
  rw [s3] at r3
  obtain ⟨b0, e0, hb0, hu0⟩ := H.it i _ hi
  rw [s5] at e0
  have hbb := (mapv_inj e0).symm
  subst hbb
  obtain ⟨_, arr, c, hh, harr⟩ := hH.map _ _ hb0
  obtain ⟨g1, g2⟩ := H.writeMap (U := U) (es' := mput K' es a b) hU hi s5
  have fin : ∀ (arr' : Array MapEntry) (c' : Nat), arr'.toList.map (fun e : MapEntry => (e.key, e.val)) = (mput K' es a b).map (fun p => (K'.val p.1, V'.val p.2)) → (Instr.mapUpdate t (.map (some b0)) (K'.val a) (V'.val b)).run P w = .ok () (setMap w b0 arr' c') →
      ∃ r σ' w', ((execOp ρv ⟨d, .mapUpdate t om ox ov, ty, pos, af, g⟩).run P w = .ok (.value r.val) w' ∨ (execOp ρv ⟨d, .mapUpdate t om ox ov, ty, pos, af, g⟩).run P w = .ok .skip w' ∧ r = .raw undef) ∧ (∃ ρ', SV C (h.set i (.mmap K' V' (mput K' es a b))).length ρ' .junk r ∧ Hp C ρ' (h.set i (.mmap K' V' (mput K' es a b))) σ' ∧ Rel U ρ h σ ρ' (h.set i (.mmap K' V' (mput K' es a b))) σ') ∧ HeapOk w' σ' Z ∧ Valid w' (σ'.free Z) r ∧ Grow w σ w' σ' := by
    intro arr' c' h1 h2
    obtain ⟨q1, q2⟩ := hH.write_map (a' := arr') (c' := c') hb0 hh
    rw [h1] at q1 q2
    refine ⟨.raw undef, _, setMap w b0 arr' c', .inr ⟨?_, rfl⟩, ⟨ρ, sv_junk, g1, g2⟩, q1, valid_raw _, q2⟩
    simp [execOp, r1, r2, r3, h2]
  have pre : ∀ r, fndV K' V' a es 0 = r → (Instr.mapUpdate t (.map (some b0)) (K'.val a) (V'.val b)).run P w = (match r with
      | some (j, _) => do
        let key ← Instr.keyThatStays (((arr[j]?).map (fun e : MapEntry => e.key)).getD (K'.val a)) (K'.val a)
        setObj b0 (.map (arr.modify j fun (e : MapEntry) => { e with key, val := V'.val b }) c)
      | none => setObj b0 (.map (arr.push { key := K'.val a, val := V'.val b, born := c }) (c + 1))).run P w := by
    intro r hr
    unfold Instr.mapUpdate
    rw [Sem.run_bind, run_underlying t1]
    dsimp only [Result.andThen]
    rw [Sem.run_bind, get_mk hh]
    dsimp only [Result.andThen]
    rw [Sem.run_bind, check_mk t2]
    dsimp only [Result.andThen]
    rw [Sem.run_bind, key_mk t2 harr, hr]
    dsimp only [Result.andThen]
    cases r <;> rfl
  rcases find_mk (x := a) 0 harr with ⟨m1, m2, m3⟩ | ⟨j, y, m1, m2, m3, m4⟩
  · refine fin (arr.push { key := K'.val a, val := V'.val b, born := c }) (c + 1) (by simp [harr, m3 b]) ?_
    rw [pre _ m2]
    exact set_mk hh
  · rw [Nat.zero_add] at m2
    refine fin (arr.modify j fun (e : MapEntry) => { e with key := K'.val a, val := V'.val b }) c ?_ ?_
    · rw [Array.toList_modify]
      exact m4 b _ (fun e => rfl)
    · rw [pre _ m2]
      dsimp only
      have hkey : ((arr[j]?).map (fun e : MapEntry => e.key)).getD (K'.val a) = K'.val a := by
        rw [Array.getElem?_toList] at m3
        rw [m3]; rfl
      rw [hkey, Sem.run_bind, stays_mk]
      exact set_mk hh
theorem run_mget {K V : MK} {kt et : TypeId} {es : List (K.ty × V.ty)} {arr : Array MapEntry} {c : Nat} {comma : Bool} {a : K.ty} {w : World} (t1 : P.underlying t = some (.map kt et)) (t2 : KeyT P kt K) (t4 : zeroA P et = some (V.val V.zero)) (hh : w.heap[b]? = some (.map arr c)) (harr : arr.toList.map (fun e : MapEntry => (e.key, e.val)) = es.map (fun p => (K.val p.1, V.val p.2))) :
    (Instr.lookup t (.map (some b)) (K.val a) comma).run P w = .ok (if comma then .tuple #[V.val ((mget K es a).getD V.zero), .bool (mget K es a).isSome] else V.val ((mget K es a).getD V.zero)) w := by
  have pre : ∀ r, fndV K V a es 0 = r → (Instr.lookup t (.map (some b)) (K.val a) comma).run P w = .ok (if comma then .tuple #[match r with | some (_, v) => v | none => V.val V.zero, .bool r.isSome] else match r with | some (_, v) => v | none => V.val V.zero) w := by
    intro r hr
    unfold Instr.lookup
    rw [Sem.run_bind, run_underlying t1]
    dsimp only [Result.andThen]
    rw [Sem.run_bind, get_mk hh]
    dsimp only [Result.andThen]
    rw [Sem.run_bind, Sem.run_pure]
    dsimp only [Result.andThen]
    rw [Sem.run_bind, check_mk t2]
    dsimp only [Result.andThen]
    rw [Sem.run_bind, key_mk t2 harr, hr]
    dsimp only [Result.andThen]
    cases r with
    | none =>
      dsimp only
      rw [Sem.run_bind, run_zeroValue' t4]
      cases comma <;> rfl
    | some x => cases comma <;> rfl
  rcases find_mk (x := a) 0 harr with ⟨m1, m2, m3⟩ | ⟨j, y, m1, m2, m3, m4⟩
  · rw [pre _ m2, m1]; rfl
  · rw [pre _ m2, m1]; rfl
theorem snd_mget {i : Nat} {x : XV T} {om ox : Operand} {comma : Bool} (hk : xmget P t comma i x h k = some z) : Sound C P U ⟨d, .lookup t om ox comma, ty, pos, af, g⟩ [.mo i, x] h k z := by
  unfold xmget at hk
  split at hk
  rotate_left
  · cases hk
  rename_i K V es hi
  split at hk
  rotate_left
  · cases hk
  rename_i K' V' hm
  split at hk
  rotate_left
  · cases hk
  rename_i hKV
  obtain ⟨e1, e2⟩ := hKV
  subst e1 e2
  obtain ⟨a, ha, hk⟩ := obind hk
  obtain ⟨kt, et, t1, t2, t3, t4⟩ := mapKV_spec hm
  have key : ∀ ρ σ (as_ : List AV), SVs C h.length ρ [.mo i, x] as_ → Hp C ρ h σ → ∀ ρv : Operand → Value, [ρv om, ρv ox] = as_.map AV.val → ∀ w Z, HeapOk w σ Z →
      (execOp ρv ⟨d, .lookup t om ox comma, ty, pos, af, g⟩).run P w = .ok (.value (if comma then .tuple #[V'.val ((mget K' es a).getD V'.zero), .bool (mget K' es a).isSome] else V'.val ((mget K' es a).getD V'.zero))) w := by
    intro ρ σ as_ hs H ρv hρ w Z hH
    obtain ⟨am, ax, rfl, s1, s2⟩ := svs2.1 hs
    obtain ⟨bm, rfl, s4, s5⟩ := sv_mo.1 s1
    have s2 := of_sv ha s2
    simp [mapv] at hρ
    obtain ⟨r1, r2⟩ := hρ
    rw [s2] at r2
    obtain ⟨b0, e0, hb0, hu0⟩ := H.it i _ hi
    rw [s5] at e0
    have hbb := (mapv_inj e0).symm
    subst hbb
    obtain ⟨_, arr, c, hh, harr⟩ := hH.map _ _ hb0
    simp only [execOp, r1, r2]
    rw [Sem.run_bind, run_mget t1 t2 t4 hh harr]
    rfl
  obtain ⟨rv, v1, v2, v3⟩ := xv_sv (C := C) V' ((mget K' es a).getD V'.zero)
  cases comma
  · dsimp only at hk
    rw [force_eq] at hk
    refine ⟨_, _, hk, fun ρ σ as_ hs H => .inr ⟨rfl, fun ρv hρ w Z hH hV => ?_⟩⟩
    exact ⟨rv, σ, w, .inl (by rw [key ρ σ as_ hs H ρv (by simpa [Op.operands] using hρ) w Z hH, v2]; simp), ⟨ρ, v1 _ _, H, .refl _ _ _ _⟩, hH, v3 _ _, Grow.refl _ _⟩
  · dsimp only at hk
    rw [force_eq] at hk
    refine ⟨_, _, hk, fun ρ σ as_ hs H => .inr ⟨rfl, fun ρv hρ w Z hH hV => ?_⟩⟩
    refine ⟨.tup [rv, .raw (.bool (mget K' es a).isSome)], σ, w, .inl (by rw [key ρ σ as_ hs H ρv (by simpa [Op.operands] using hρ) w Z hH, ← v2]; simp), ⟨ρ, sv_tup.2 ⟨_, rfl, .cons (v1 _ _) (sv_bool.2 rfl)⟩, H, .refl _ _ _ _⟩, hH, ?_, Grow.refl _ _⟩
    unfold Valid
    exact Valids.iff.2 (by simp [v3, valid_raw])
/-- How many a map has. -/
theorem snd_mlen {c : Call} {i : Nat} (hn : c.args.size = 1) (hk : xmlen P c i h k = some z) : ∃ r h', k r h' = some z ∧ ∀ ρ σ as_, SVs C h.length ρ [.mo i] as_ → Hp C ρ h σ → ExecA P ⟨d, .call c, ty, pos, af, g⟩ as_ σ fun rv τ => ∃ ρ', SV C h'.length ρ' r rv ∧ Hp C ρ' h' τ ∧ Rel U ρ h σ ρ' h' τ := by
  unfold xmlen at hk
  split at hk
  rotate_left
  · cases hk
  rename_i t hc ht
  split at hk
  rotate_left
  · cases hk
  rename_i kt et K V es hu hi
  refine ⟨_, _, hk, fun ρ σ as_ hs H => fun ρv hρ w Z hH hV => ?_⟩
  obtain ⟨am, rfl, s1⟩ := svs1.1 hs
  obtain ⟨bm, rfl, s4, s5⟩ := sv_mo.1 s1
  obtain ⟨b0, e0, hb0, hu0⟩ := H.it i _ hi
  rw [s5] at e0
  have hbb := (mapv_inj e0).symm
  subst hbb
  obtain ⟨_, arr, c', hh, harr⟩ := hH.map _ _ hb0
  have hlen : arr.size = es.length := by
    have := congrArg List.length harr
    simpa using this
  refine ⟨.raw (.int .i64 es.length), σ, w, .inl ?_, ⟨ρ, sv_int.2 rfl, H, .refl _ _ _ _⟩, hH, valid_raw _, Grow.refl _ _⟩
  obtain ⟨cal, args, ats⟩ := c
  dsimp only at hc ht hn
  subst hc
  simp [Op.operands, Call.operands, mapv] at hρ
  obtain ⟨q, hq, hρ⟩ := hρ
  have hq' : args = #[q] := by
    cases args
    simpa using hq
  subst hq'
  simp [execOp, resolve, invoke, builtin, Builtin.len_, hρ, ht, run_underlying hu, goInt, get_mk hh, hlen, Result.andThen]
end
end Go.Proofs.YtlmmpfbdgiokmaaGreat
