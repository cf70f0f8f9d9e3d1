/- Regions that draw their order: the theorem. -/
import Derived.Test.YtnmimignbgdfgaaAv8
namespace Go.Proofs.Ytnmimignbgdfgaa
open Go.RowKit
set_option maxRecDepth 100000
set_option linter.unusedVariables false

def allocOk (P : Program) (o : Oper) : Bool := match o.op with
  | .alloc e => (zeroA P e).isSome
  | .box _ _ => true
  | _ => false
def swapOk (P : Program) (ops : Array Oper) (l c : Bool) (p i : Oper) : Bool := p.apart ops i && match kindOf p, kindOf i with
  | .pure, _ => true
  | .load, .pure | .load, .load | .load, .alloc | .load, .row => true
  | .load, .call | .load, .exec | .load, .store => l && c
  | .alloc, .alloc | .alloc, .row | .row, .alloc | .row, .row => true
  | .call, .alloc | .exec, .alloc | .store, .alloc => allocOk P i
  | _, _ => false
section
variable {P : Program} {ops : Array Oper} {Pres : Nat → Prop} {o p i : Oper} {env : Env} {σ : St} {lp cp li ci : Bool}
theorem Env.put_comm (env : Env) {x y : Option Nat} (v u : AV) (h : ∀ d, x = some d → y ≠ some d) : (env.put x v).put y u = (env.put y u).put x v := by
  cases x with
  | none => rfl
  | some d =>
    cases y with
    | none => rfl
    | some d' =>
      have hne : d' ≠ d := fun e => h d rfl (by rw [e])
      funext t
      show (if t = d' then u else if t = d then v else env t) = (if t = d then v else if t = d' then u else env t)
      by_cases h1 : t = d'
      · subst h1; rw [if_pos rfl, if_neg hne, if_pos rfl]
      · rw [if_neg h1, if_neg h1]
theorem ev_put {x : Operand} {dst : Option Nat} {v : AV} (h : ∀ d, dst = some d → x ≠ .tmp d) : ev (env.put dst v) x = ev env x := by
  cases dst with
  | none => rfl
  | some d =>
    cases x with
    | tmp t =>
      show (if t = d then v else env t) = env t
      rw [if_neg]
      rintro rfl
      exact h t rfl rfl
    | _ => rfl
theorem aOpD_put {dst : Option Nat} {v : AV} (h : ∀ d, dst = some d → d ∉ o.looksAt ops) : aOpD P ops Pres lp cp o (env.put dst v) = aOpD P ops Pres lp cp o env := by
  have h1 : o.op.operands.toList.map (ev (env.put dst v)) = o.op.operands.toList.map (ev env) := by
    refine List.map_congr_left fun x hx => ev_put fun d hd e => ?_
    subst e
    exact h d hd (List.mem_append_left _ (List.mem_filterMap.2 ⟨.tmp d, hx, rfl⟩))
  have h2 : Region.wanted o (yieldedA ops (env.put dst v)) = Region.wanted o (yieldedA ops env) := by
    unfold Region.wanted
    cases hg : o.guard with
    | none => rfl
    | some g =>
      obtain ⟨j, want⟩ := g
      dsimp only
      have : yieldedA ops (env.put dst v) j = yieldedA ops env j := by
        unfold yieldedA
        cases hj : (ops[j]?).bind (·.dst) with
        | none => rfl
        | some t =>
          dsimp only
          have : (env.put dst v) t = env t := by
            cases dst with
            | none => rfl
            | some d =>
              show (if t = d then v else env t) = env t
              rw [if_neg]
              rintro rfl
              refine h t rfl (List.mem_append_right _ ?_)
              rw [hg]
              dsimp only
              rw [hj]
              simp
          rw [this]
      rw [this]
  funext σ K
  unfold aOpD
  rw [h1, h2]
theorem allocF_own {lf cf : Bool} (hk : kindOf o = .alloc) (hok : allocOk P o = true) (hw : Region.wanted o (yieldedA ops env) = true) :
    ∃ (mk : Nat → AV) (t : TypeId) (cs : List AV), ∀ σ K, aOpD P ops Pres lf cf o env σ K ↔ True ∧ ∀ b, ¬ σ.used b → σ.blk b = none → K (mk b) (σ.put b (.own t cs)) := by
  have hM : ∀ σ K, aOpD P ops Pres lf cf o env σ K ↔ aVal P o (o.op.operands.toList.map (ev env)) σ K := by
    intro σ K
    unfold aOpD
    rw [if_pos hw]
    simp [hk, effects]
  unfold allocOk at hok
  split at hok
  · rename_i e ho
    have hvs : o.op.operands.toList.map (ev env) = [] := by rw [ho]; simp [Op.operands]
    obtain ⟨z, hz⟩ := Option.isSome_iff_exists.1 hok
    refine ⟨fun b => ptr b 0, e, (AV.ofV z).cells, fun σ K => ?_⟩
    rw [hM, hvs]
    unfold aVal
    rw [ho]
    dsimp only
    rw [hz]
    constructor
    · rintro ⟨z', h1, h2⟩
      injection h1 with h1
      subst h1
      exact ⟨trivial, h2⟩
    · rintro ⟨_, h2⟩
      exact ⟨z, rfl, h2⟩
  · rename_i e x ho
    have hvs : o.op.operands.toList.map (ev env) = [ev env x] := by rw [ho]; simp [Op.operands]
    refine ⟨fun b => ptr b 0, e, (ev env x).cells, fun σ K => ?_⟩
    rw [hM, hvs]
    unfold aVal
    rw [ho]
    simp
  · cases hok
theorem swapD {K : Env → St → Prop} (hok : swapOk P ops lp ci p i = true)
    (h : aOpD P ops Pres lp cp p env σ fun r σ1 => aOpD P ops Pres li ci i (env.put p.dst r) σ1 fun s σ2 => K ((env.put p.dst r).put i.dst s) σ2) :
    aOpD P ops Pres li ci i env σ fun s σ1 => aOpD P ops Pres lp cp p (env.put i.dst s) σ1 fun r σ2 => K ((env.put i.dst s).put p.dst r) σ2 := by
  unfold swapOk at hok
  simp only [Bool.and_eq_true] at hok
  obtain ⟨hap, hk⟩ := hok
  obtain ⟨a1, a2, a3⟩ := Oper.apart_spec hap
  have e1 : ∀ r, aOpD P ops Pres li ci i (env.put p.dst r) = aOpD P ops Pres li ci i env := fun r => aOpD_put a1
  have e2 : ∀ s, aOpD P ops Pres lp cp p (env.put i.dst s) = aOpD P ops Pres lp cp p env := fun s => aOpD_put a3
  have e3 : ∀ r s, (env.put i.dst s).put p.dst r = (env.put p.dst r).put i.dst s := fun r s => (Env.put_comm env r s a2).symm
  simp only [e1] at h
  simp only [e2, e3]
  have mp : Mono (aOpD P ops Pres lp cp p env) := fun σ K K' hk h => aOpD_mono hk h
  have mi : Mono (aOpD P ops Pres li ci i env) := fun σ K K' hk h => aOpD_mono hk h
  by_cases wp : Region.wanted p (yieldedA ops env) = true
  · by_cases wi : Region.wanted i (yieldedA ops env) = true
    · split at hk
      · rename_i k1
        exact swap_pure (pureF k1 wp) mi h
      · rename_i k1 k2
        exact swap_load_pure (loadF (lf := lp) k1 wp) (pureF k2 wi) h
      · rename_i k1 k2
        exact swap_load_load (loadF (lf := lp) k1 wp) (loadF (lf := li) k2 wi) h
      · rename_i k1 k2
        exact swap_load_alloc (loadF (lf := lp) k1 wp) (allocF (.inl k2) wi) h
      · rename_i k1 k2
        exact swap_load_alloc (loadF (lf := lp) k1 wp) (allocF (.inr k2) wi) h
      · rename_i k1 k2
        simp only [Bool.and_eq_true] at hk
        obtain ⟨rfl, rfl⟩ := hk
        exact swap_load_eff (loadF (lf := true) k1 wp) (effF (by unfold effects; rw [k2]) wi) h
      · rename_i k1 k2
        simp only [Bool.and_eq_true] at hk
        obtain ⟨rfl, rfl⟩ := hk
        exact swap_load_eff (loadF (lf := true) k1 wp) (effF (by unfold effects; rw [k2]) wi) h
      · rename_i k1 k2
        simp only [Bool.and_eq_true] at hk
        obtain ⟨rfl, rfl⟩ := hk
        exact swap_load_eff (loadF (lf := true) k1 wp) (effF (by unfold effects; rw [k2]) wi) h
      · rename_i k1 k2
        exact swap_alloc_alloc (allocF (.inl k1) wp) (allocF (.inl k2) wi) h
      · rename_i k1 k2
        exact swap_alloc_alloc (allocF (.inl k1) wp) (allocF (.inr k2) wi) h
      · rename_i k1 k2
        exact swap_alloc_alloc (allocF (.inr k1) wp) (allocF (.inl k2) wi) h
      · rename_i k1 k2
        exact swap_alloc_alloc (allocF (.inr k1) wp) (allocF (.inr k2) wi) h
      · rename_i k1 k2
        obtain ⟨mk, t, cs, hN⟩ := allocF_own (Pres := Pres) (lf := li) (cf := ci) k2 hk wi
        exact swap_eff_alloc trivial (frF (by unfold effects; rw [k1]) wp) hN h
      · rename_i k1 k2
        obtain ⟨mk, t, cs, hN⟩ := allocF_own (Pres := Pres) (lf := li) (cf := ci) k2 hk wi
        exact swap_eff_alloc trivial (frF (by unfold effects; rw [k1]) wp) hN h
      · rename_i k1 k2
        obtain ⟨mk, t, cs, hN⟩ := allocF_own (Pres := Pres) (lf := li) (cf := ci) k2 hk wi
        exact swap_eff_alloc trivial (frF (by unfold effects; rw [k1]) wp) hN h
      · cases hk
    · exact swap_no_right (noF wi) mp h
  · exact swap_no_left (noF wp) mi h
theorem aRunD_mono {lf cf : Nat → Bool} : ∀ (l : List Nat) {env : Env} {σ : St} {K K' : Env → St → Prop}, (∀ env' σ', K env' σ' → K' env' σ') → aRunD P ops Pres lf cf l env σ K → aRunD P ops Pres lf cf l env σ K'
  | [], env, σ, K, K', hk, h => hk _ _ h
  | j :: l, env, σ, K, K', hk, h => by
    unfold aRunD at h ⊢
    split
    · rename_i ho
      rw [ho] at h
      exact aRunD_mono l hk h
    · rename_i o ho
      rw [ho] at h
      exact aOpD_mono (fun r σ' h' => aRunD_mono l hk h') h
/-- An operation that no other one of these is ahead of may come first. -/
theorem pull {lf cf : Nat → Bool} {x : Nat} {ox : Oper} (hx : ops[x]? = some ox) : ∀ (l l2 : List Nat) {env : Env} {σ : St} {K : Env → St → Prop}, (∀ j oj, j ∈ l → ops[j]? = some oj → swapOk P ops (lf j) (cf x) oj ox = true) →
    aRunD P ops Pres lf cf (l ++ x :: l2) env σ K → aRunD P ops Pres lf cf (x :: (l ++ l2)) env σ K
  | [], l2, env, σ, K, _, h => h
  | j :: l, l2, env, σ, K, hok, h => by
    rw [List.cons_append] at h ⊢
    have ih := fun {env : Env} {σ : St} {K : Env → St → Prop} => pull hx l l2 (env := env) (σ := σ) (K := K) (fun j' oj h1 h2 => hok j' oj (List.mem_cons_of_mem _ h1) h2)
    unfold aRunD at h
    cases hj : ops[j]? with
    | none =>
      rw [hj] at h
      have := ih h
      unfold aRunD at this ⊢
      rw [hx] at this ⊢
      dsimp only at this ⊢
      refine aOpD_mono (fun r σ' h' => ?_) this
      unfold aRunD
      rw [hj]
      exact h'
    | some oj =>
      rw [hj] at h
      dsimp only at h
      have h2 := aOpD_mono (fun r σ' h' => ih h') h
      have h3 : aOpD P ops Pres (lf j) (cf j) oj env σ fun r σ1 => aOpD P ops Pres (lf x) (cf x) ox (env.put oj.dst r) σ1 fun s σ2 => aRunD P ops Pres lf cf (l ++ l2) ((env.put oj.dst r).put ox.dst s) σ2 K := by
        refine aOpD_mono (fun r σ' h' => ?_) h2
        unfold aRunD at h'
        rw [hx] at h'
        exact h'
      have h4 := swapD (K := fun env' σ' => aRunD P ops Pres lf cf (l ++ l2) env' σ' K) (hok j oj (List.mem_cons_self) hj) h3
      unfold aRunD
      rw [hx]
      dsimp only
      refine aOpD_mono (fun r σ' h' => ?_) h4
      unfold aRunD
      rw [hj]
      exact h'
/-- One order, held against all: which operations are behind which; what may change places. -/
def drawOk (P : Program) (ops : Array Oper) (order : List Nat) (anc : Nat → List Nat) (lf cf : Nat → Bool) : Bool :=
  (List.range ops.size).all (fun i => order.contains i) && order.all (fun i => decide (i < ops.size)) && decide order.Nodup &&
  (List.range ops.size).all (fun i => match ops[i]? with
    | some o => o.after.all (fun e => !Region.binds .any e || decide (e.on < i)) && (anc i).all fun p => o.after.any fun e => Region.binds .any e && (e.on == p || (anc e.on).contains p)
    | none => false) &&
  pairs order
where
  pairs : List Nat → Bool
    | [] => true
    | p :: rest => rest.all (fun i => (anc i).contains p || match ops[p]?, ops[i]? with
      | some op, some oi => swapOk P ops (lf p) (cf i) op oi
      | _, _ => false) && pairs rest
theorem drawOk.pairs_spec {anc : Nat → List Nat} {lf cf : Nat → Bool} : ∀ {l : List Nat}, drawOk.pairs P ops anc lf cf l = true →
    l.Pairwise fun p i => p ∈ anc i ∨ ∃ op oi, ops[p]? = some op ∧ ops[i]? = some oi ∧ swapOk P ops (lf p) (cf i) op oi = true
  | [], _ => List.Pairwise.nil
  | p :: l, h => by
    unfold drawOk.pairs at h
    simp only [Bool.and_eq_true] at h
    refine List.Pairwise.cons (fun i hi => ?_) (drawOk.pairs_spec h.2)
    have := List.all_eq_true.1 h.1 i hi
    simp only [Bool.or_eq_true] at this
    rcases this with h1 | h1
    · exact .inl (by simpa using h1)
    · right
      split at h1
      · rename_i op oi h2 h3
        exact ⟨op, oi, h2, h3, h1⟩
      · cases h1
def aDrawn (P : Program) (ops : Array Oper) (env : Env) (σ : St) (K : Env → St → Prop) : Prop :=
  ∃ (order : List Nat) (anc : List (List Nat)) (Pres : Nat → Prop) (lf cf : List Nat), drawOk P ops order (anc.getD · []) lf.contains cf.contains = true ∧ aRunD P ops Pres lf.contains cf.contains order env σ K
theorem AInv.drew {w : World} {Z : Nat → Prop} {a : Act} {nt : Nat} (h : AInv nt w σ Z env a) : AInv nt { w with drawn := w.drawn + 1 } σ Z env a := by
  have hv : ∀ {c : AV}, Valid w (σ.free Z) c → Valid { w with drawn := w.drawn + 1 } (σ.free Z) c := fun hc => Valid.keep (w := w) (w' := { w with drawn := w.drawn + 1 }) (B := σ.free Z) (B' := σ.free Z) (fun ad v h1 h2 => ⟨h1, h2⟩) _ hc
  refine ⟨⟨h.heap.used, h.heap.z, fun b t cs hb => ?_, h.heap.tail⟩, h.defers, h.size, h.val, fun i => hv (h.valid i)⟩
  obtain ⟨h1, h2, h3⟩ := h.heap.own b t cs hb
  exact ⟨h1, h2, fun c hc => hv (h3 c hc)⟩
theorem aDrawn_any {Z : Nat → Prop} {nt : Nat} {K : Env → St → Prop} {Q : Exit → Act → World → Prop} {anc : Nat → List Nat} {lf cf : Nat → Bool} (hok : dstOk nt ops.toList = true)
    (hanc : ∀ i o, ops[i]? = some o → (∀ e ∈ o.after, Region.binds .any e = true → e.on < i) ∧ ∀ p ∈ anc i, ∃ e ∈ o.after, Region.binds .any e = true ∧ (e.on = p ∨ p ∈ anc e.on)) :
    ∀ (n : Nat) (order : List Nat) (listed : Array Bool) (env : Env) (σ : St) (a : Act) (w : World), order.length = n → listed.size = ops.size →
      (∀ i, i ∈ order ↔ i < ops.size ∧ listed.getD i true = false) → order.Nodup →
      order.Pairwise (fun p i => p ∈ anc i ∨ ∃ op oi, ops[p]? = some op ∧ ops[i]? = some oi ∧ swapOk P ops (lf p) (cf i) op oi = true) →
      (∀ i, listed.getD i false = true → ∀ p ∈ anc i, listed.getD p false = true) →
      AInv nt w σ Z env a → aRunD P ops Pres lf cf order env σ K → (∀ a' w', After nt w σ Z K a' w' → Q .normal a' w') → wpAny P .any ops Q n listed a w
  | 0, order, listed, env, σ, a, w, hn, hs, hm, hnd, hp, hc, hI, h, hQ => by
    obtain rfl : order = [] := List.eq_nil_of_length_eq_zero hn
    refine ⟨?_, hQ a w ⟨env, σ, h, hI, Grow.refl _ _⟩⟩
    refine List.eq_nil_iff_forall_not_mem.2 fun i hi => ?_
    obtain ⟨h1, o, h2, _⟩ := mem_ready.1 hi
    have := (hm i).2 ⟨(Array.getElem?_eq_some_iff.1 h2).1, h1⟩
    cases this
  | n + 1, order, listed, env, σ, a, w, hn, hs, hm, hnd, hp, hc, hI, h, hQ => by
    have hff : ∀ i, i < ops.size → (listed.getD i true = false ↔ listed.getD i false = false) := fun i hi => by
      have : i < listed.size := by omega
      simp [Array.getD, this]
    refine ⟨fun hr => ?_, fun i hi => ?_⟩
    · exfalso
      have hne : order ≠ [] := by rintro rfl; simp at hn
      have hex : ∃ i, i ∈ order := by
        cases order with
        | nil => exact absurd rfl hne
        | cons x l => exact ⟨x, List.mem_cons_self⟩
      obtain ⟨m, hm1, hm2⟩ := exists_least hex
      obtain ⟨hlt, hun⟩ := (hm m).1 hm1
      have : m ∈ Region.ready .any ops listed := by
        refine mem_ready.2 ⟨hun, ops[m], Array.getElem?_eq_getElem hlt, fun e he hb => ?_⟩
        have hlt2 := (hanc m _ (Array.getElem?_eq_getElem hlt)).1 e he hb
        cases hl : listed.getD e.on false with
        | true => rfl
        | false =>
          have := (hm e.on).2 ⟨by omega, (hff _ (by omega)).2 hl⟩
          have := hm2 _ this
          omega
      rw [hr] at this
      cases this
    · obtain ⟨hun, o, ho, hdeps⟩ := mem_ready.1 hi
      have hlt : i < ops.size := (Array.getElem?_eq_some_iff.1 ho).1
      have himem := (hm i).2 ⟨hlt, hun⟩
      obtain ⟨l1, l2, rfl⟩ := List.append_of_mem himem
      have hnl : ∀ p ∈ anc i, listed.getD p false = true := fun p hpi => by
        obtain ⟨e, he, hb, hor⟩ := (hanc i o ho).2 p hpi
        have hle := hdeps e he hb
        rcases hor with rfl | hor
        · exact hle
        · exact hc _ hle p hor
      have hsw : ∀ j oj, j ∈ l1 → ops[j]? = some oj → swapOk P ops (lf j) (cf i) oj o = true := fun j oj hj hoj => by
        have := (List.pairwise_append.1 hp).2.2 j hj i List.mem_cons_self
        rcases this with h1 | ⟨op, oi, h1, h2, h3⟩
        · have h4 := hnl j h1
          have h5 := (hm j).1 (List.mem_append_left _ hj)
          rw [(hff j h5.1)] at h5
          rw [h5.2] at h4
          cases h4
        · rw [hoj] at h1
          injection h1 with h1
          rw [ho] at h2
          injection h2 with h2
          subst h1 h2
          exact h3
      have hrun := pull ho l1 l2 hsw h
      unfold aRunD at hrun
      rw [ho] at hrun
      dsimp only at hrun
      have hop := aOpD_weak hrun
      have hdst : ∀ t, o.dst = some t → t < nt := fun t ht => by
        have := List.all_eq_true.1 hok o (by simpa using Array.mem_of_getElem? ho)
        rw [ht] at this
        simpa using this
      have hs2 := aOp_sound (Q := Q) hI hok hdst hop
      have hndp := List.nodup_append.1 hnd
      have hnd2 := List.nodup_cons.1 hndp.2.1
      have hni : i ∉ l1 ++ l2 := fun hx => by
        rcases List.mem_append.1 hx with hx | hx
        · exact hndp.2.2 i hx i List.mem_cons_self rfl
        · exact hnd2.1 hx
      have step : ∀ a' w', After nt w σ Z (fun env' σ' => ∃ r, env' = env.put o.dst r ∧ aRunD P ops Pres lf cf (l1 ++ l2) (env.put o.dst r) σ' K) a' w' → wpAny P .any ops Q n (listed.setIfInBounds i true) a' w' := by
        rintro a' w' ⟨env', σ', ⟨r, rfl, hK⟩, hI', hG⟩
        have hset : ∀ j, j ≠ i → ∀ d, (listed.setIfInBounds i true).getD j d = listed.getD j d := fun j hj d => by
          simp only [Array.getD_eq_getD_getElem?]
          rw [Array.getElem?_setIfInBounds_ne (Ne.symm hj)]
        have hseti : ∀ d, (listed.setIfInBounds i true).getD i d = true := fun d => by
          have : i < listed.size := by omega
          simp [Array.getD, this]
        refine aDrawn_any hok hanc n (l1 ++ l2) (listed.setIfInBounds i true) (env.put o.dst r) σ' a' w' (by simp at hn ⊢; omega) (by simp [hs]) ?_ ?_ ?_ ?_ hI' hK ?_
        · intro j
          by_cases hj : j = i
          · subst hj
            constructor
            · exact fun hx => absurd hx hni
            · rintro ⟨_, h2⟩
              rw [hseti] at h2
              cases h2
          · rw [hset j hj]
            rw [← hm j]
            simp [hj]
        · exact List.Sublist.nodup (List.Sublist.append (List.Sublist.refl _) (List.sublist_cons_self i l2)) hnd
        · exact List.Pairwise.sublist (List.Sublist.append (List.Sublist.refl _) (List.sublist_cons_self i l2)) hp
        · intro j hj p hpj
          by_cases hji : j = i
          · subst hji
            by_cases hpj' : p = j
            · subst hpj'; exact hseti _
            · rw [hset p hpj']; exact hnl p hpj
          · rw [hset j hji] at hj
            by_cases hpi : p = i
            · subst hpi; exact hseti _
            · rw [hset p hpi]; exact hc j hj p hpj
        · rintro a2 w2 ⟨env2, σ2, g1, g2, g3⟩
          exact hQ a2 w2 ⟨env2, σ2, g1, g2, hG.trans g3⟩
      unfold wpOp
      rw [ho]
      dsimp only
      split
      · rename_i hw
        rw [if_pos hw] at hs2
        rcases hs2 with hs2 | hs2
        · exact .inl (Oper.wp_mono step hs2)
        · exact .inr hs2
      · rename_i hw
        rw [if_neg hw] at hs2
        exact step _ _ hs2
theorem aDrawn_sound {w : World} {Z : Nat → Prop} {a : Act} {nt : Nat} {K : Env → St → Prop} {Q : Exit → Act → World → Prop} {id : Nat} (hm : P.follows .mixedOrders = true) (hok : dstOk nt ops.toList = true) (hI : AInv nt w σ Z env a) (h : aDrawn P ops env σ K)
    (hQ : ∀ a' w', After nt w σ Z K a' w' → Q .normal a' w') : (Code.region id ops true).wp P Q a w := by
  obtain ⟨order, anc, Pres, lf, cf, hd, hr⟩ := h
  unfold drawOk at hd
  simp only [Bool.and_eq_true, decide_eq_true_eq] at hd
  obtain ⟨⟨⟨⟨h1, h2⟩, h3⟩, h4⟩, h5⟩ := hd
  have hmem : ∀ i, i ∈ order ↔ i < ops.size ∧ (Array.replicate ops.size false).getD i true = false := fun i => by
    constructor
    · intro hi
      have := List.all_eq_true.1 h2 i hi
      have hlt : i < ops.size := by simpa using this
      exact ⟨hlt, by simp [Array.getD, hlt]⟩
    · rintro ⟨hlt, _⟩
      have := List.all_eq_true.1 h1 i (List.mem_range.2 hlt)
      simpa using this
  have hlen : order.length = ops.size := by
    have hp : order.Perm (List.range ops.size) := by
      refine (List.perm_ext_iff_of_nodup h3 List.nodup_range).2 fun i => ?_
      rw [hmem i, List.mem_range]
      constructor
      · exact fun h => h.1
      · exact fun h => ⟨h, by simp [Array.getD, h]⟩
    rw [hp.length_eq, List.length_range]
  refine wp_region_any hm ?_
  refine aDrawn_any (Z := Z) (K := K) (Pres := Pres) (anc := (anc.getD · [])) (lf := lf.contains) (cf := cf.contains) hok ?_ ops.size order _ env σ a _ hlen (by simp) hmem h3 (drawOk.pairs_spec h5) ?_ hI.drew hr ?_
  · intro i o ho
    have hlt : i < ops.size := (Array.getElem?_eq_some_iff.1 ho).1
    have := List.all_eq_true.1 h4 i (List.mem_range.2 hlt)
    rw [ho] at this
    simp only [Bool.and_eq_true] at this
    obtain ⟨g1, g2⟩ := this
    refine ⟨fun e he hb => ?_, fun p hp => ?_⟩
    · have := Array.all_eq_true_iff_forall_mem.1 g1 e he
      simpa [hb] using this
    · have := List.all_eq_true.1 g2 p hp
      obtain ⟨e, he, hx⟩ := Array.any_eq_true'.1 this
      simp only [Bool.and_eq_true, Bool.or_eq_true, beq_iff_eq] at hx
      exact ⟨e, he, hx.1, hx.2.imp (fun h => h) (fun h => by simpa using h)⟩
  · intro i hi
    exfalso
    have : (Array.replicate ops.size false).getD i false = false := by
      simp only [Array.getD_eq_getD_getElem?, Array.getElem?_replicate]
      split <;> rfl
    rw [this] at hi
    cases hi
  · rintro a' w' ⟨env', σ', g1, g2, g3⟩
    exact hQ a' w' ⟨env', σ', g1, g2, ⟨g3.os, g3.tape, g3.output, g3.size, g3.used, g3.rest, g3.tail, g3.more⟩⟩
end
end Go.Proofs.Ytnmimignbgdfgaa
