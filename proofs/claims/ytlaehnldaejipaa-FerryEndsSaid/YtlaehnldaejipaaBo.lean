/- Bundles: what becomes of a heap; operations. -/
import Derived.Test.YtlaehnldaejipaaBn
namespace Go.Proofs.Ytlaehnldaejipaa
open Go.RowKit
set_option linter.unusedSimpArgs false
set_option maxRecDepth 100000
set_option linter.unusedVariables false
variable {T : Nat → Type} {A : Type}
section
variable {U S : Nat → Prop} {C : Codec T} {N N' : Nat} {ρ ρ' : Nat → AV} {h : List (HI T)} {σ τ : St}
theorem SH.move {p : Nat} {x : HI T} (hs : SH C N ρ σ p x) (hN : N ≤ N') (hρ : ∀ i, i < N → ρ' i = ρ i) (hp : p < N) (hX : But S σ τ) (hS : x.alive = true → ∀ b, (ρ p).owns b → ¬ S b) : SH C N' ρ' τ p x := by
  cases x with
  | obj t cs =>
    obtain ⟨b, acs, h1, h2, h3, h4⟩ := hs
    exact ⟨b, acs, (hρ p hp).trans h1, hX.keep _ _ (hS rfl b (by rw [h1]; rfl)) h2, hX.used _ h3, h4.ext hN hρ⟩
  | row e sz =>
    obtain ⟨n, cs, ho⟩ := hs
    exact ⟨n, cs, by rw [hρ p hp]; exact ho.but' hX fun g hg => hS rfl g hg⟩
  | arr e E kp xs =>
    rcases hs with ⟨b, K, pre, rest, h1, h2, h3, h4⟩ | ⟨h1, h2⟩
    · exact .inl ⟨b, K, pre, rest, (hρ p hp).trans h1, hX.keep _ _ (hS rfl b (by rw [h1]; rfl)) h2, hX.used _ h3, h4⟩
    · exact .inr ⟨(hρ p hp).trans h1, h2⟩
  | mmap K V es =>
    obtain ⟨b, h1, h2, h3⟩ := hs
    exact ⟨b, (hρ p hp).trans h1, hX.keep _ _ (hS rfl b (by rw [h1]; rfl)) h2, hX.used _ h3⟩
  | gen E x =>
    show C.gsh E x τ (ρ' p)
    rw [hρ p hp]
    exact C.gsh_but _ _ _ _ _ _ hs hX fun b hb => hS rfl b hb
  | dead => trivial
/-- An item of ours is written. -/
theorem Hp.putGen (H : Hp C ρ h σ) {i E : Nat} {x x' : T E} (hU : U i) (hi : h[i]? = some (.gen E x)) (hX : But (fun b => (ρ i).owns b) σ τ) (hg : C.gsh E x' τ (ρ i)) :
    Hp C ρ (h.set i (.gen E x')) τ ∧ Rel U ρ h σ ρ (h.set i (.gen E x')) τ := by
  have hoth : ∀ (j : Nat) x c, h[j]? = some x → x.alive = true → j ≠ i → (ρ j).owns c → ¬ (ρ i).owns c := fun j x c h1 h2 h3 h4 h5 => h3 (H.dist j i x _ c h1 hi h2 rfl h4 h5)
  have hliv : ∀ c, Liv ρ (h.set i (.gen E x')) c → Liv ρ h c := fun c ⟨j, x, hx, ax, bx⟩ => by
    rcases get_set hx with ⟨rfl, rfl, _⟩ | ⟨_, hx⟩
    · exact ⟨j, _, hi, rfl, bx⟩
    · exact ⟨j, x, hx, ax, bx⟩
  refine ⟨⟨fun j y hy => ?_, fun j k y z c hy hz ay az by_ bz => ?_⟩, ⟨by simp, fun _ _ => rfl, hX.more fun c hc => ⟨i, _, hU, hi, rfl, hc⟩, fun c hc => .inl (hliv c hc)⟩⟩
  · rw [List.length_set]
    rcases get_set hy with ⟨rfl, rfl, _⟩ | ⟨hne, hy⟩
    · exact hg
    · exact (H.it j y hy).move (Nat.le_refl _) (fun _ _ => rfl) (lt_of_get hy) hX fun ay b hb => hoth j y b hy ay hne hb
  · rcases get_set hy with ⟨e1, e2, _⟩ | ⟨hne, hy2⟩ <;> rcases get_set hz with ⟨e3, e4, _⟩ | ⟨hne2, hz2⟩
    · rw [e1, e3]
    · subst e1; exact H.dist j k _ z c hi hz2 rfl az by_ bz
    · subst e3; exact H.dist j k y _ c hy2 hi ay rfl by_ bz
    · exact H.dist j k y z c hy2 hz2 ay az by_ bz
def killAll : List Nat → List (HI T) → List (HI T)
  | [], h => h
  | j :: ds, h => killAll ds (h.set j .dead)
theorem killAll_len : ∀ (ds : List Nat) (h : List (HI T)), (killAll ds h).length = h.length
  | [], h => rfl
  | j :: ds, h => by unfold killAll; rw [killAll_len ds, List.length_set]
theorem killAll_get : ∀ {ds : List Nat} {h : List (HI T)} {p : Nat} {y : HI T}, (killAll ds h)[p]? = some y → y = .dead ∨ (h[p]? = some y ∧ p ∉ ds)
  | [], h, p, y, hp => .inr ⟨hp, by simp⟩
  | j :: ds, h, p, y, hp => by
    unfold killAll at hp
    rcases killAll_get hp with e | ⟨h1, h2⟩
    · exact .inl e
    · rcases get_set h1 with ⟨_, e, _⟩ | ⟨hne, h3⟩
      · exact .inl e
      · exact .inr ⟨h3, fun hm => (List.mem_cons.1 hm).elim hne h2⟩
def LivIn (ds : List Nat) (ρ : Nat → AV) (h : List (HI T)) (b : Nat) : Prop := ∃ j ∈ ds, ∃ y, h[j]? = some y ∧ y.alive = true ∧ (ρ j).owns b
/-- A new item, out of others. -/
theorem Hp.addGen (H : Hp C ρ h σ) (ds : List Nat) {E : Nat} {x : T E} {a : AV} (hX : But (LivIn ds ρ h) σ τ) (hXU : But (LivU U ρ h) σ τ) (hg : C.gsh E x τ a) (ha : ∀ b, a.owns b → LivIn ds ρ h b ∨ (σ.blk b = none ∧ ¬ σ.used b)) :
    Hp C (rup ρ h.length a) (killAll ds h ++ [HI.gen E x]) τ ∧ Rel U ρ h σ (rup ρ h.length a) (killAll ds h ++ [HI.gen E x]) τ := by
  have hl := killAll_len ds h
  have hext : ∀ i, i < h.length → rup ρ h.length a i = ρ i := fun i hi => rup_other (by omega)
  have hold : ∀ {p : Nat} {y : HI T}, (killAll ds h)[p]? = some y → y.alive = true → h[p]? = some y ∧ p ∉ ds := fun hp ay => by
    rcases killAll_get hp with rfl | g
    · cases ay
    · exact g
  have hoth : ∀ {p : Nat} {y : HI T} {c : Nat}, h[p]? = some y → p ∉ ds → y.alive = true → (ρ p).owns c → ¬ LivIn ds ρ h c := fun {p y c} h1 h2 h3 h4 ⟨j, hj, w, g1, g2, g3⟩ => h2 (by rw [H.dist p j y w c h1 g1 h3 g2 h4 g3]; exact hj)
  have hnew : ∀ {p : Nat} {y : HI T} {c : Nat}, h[p]? = some y → p ∉ ds → y.alive = true → (ρ p).owns c → ¬ a.owns c := fun {p y c} h1 h2 h3 h4 h5 => by
    rcases ha c h5 with g | g
    · exact hoth h1 h2 h3 h4 g
    · exact g.2 (H.used ⟨p, y, h1, h3, h4⟩)
  refine ⟨⟨fun p y hy => ?_, fun p q y z c hy hz ay az by_ bz => ?_⟩, ⟨by rw [List.length_append, hl]; omega, hext, hXU, fun c hc => ?_⟩⟩
  · rcases get_app hy with ⟨rfl, rfl⟩ | ⟨hp, hy⟩
    · show C.gsh E x τ (rup ρ h.length a _)
      rw [hl, rup_same]; exact hg
    · rw [hl] at hp
      rcases killAll_get hy with rfl | ⟨hy, hd⟩
      · trivial
      · exact (H.it p y hy).move (by rw [List.length_append, hl]; omega) hext hp hX fun ay b hb => hoth hy hd ay hb
  · rcases get_app hy with ⟨rfl, rfl⟩ | ⟨hp, hy⟩ <;> rcases get_app hz with ⟨rfl, rfl⟩ | ⟨hq, hz⟩
    · rfl
    · obtain ⟨z1, z2⟩ := hold hz az
      rw [hl] at by_ hq
      rw [rup_same] at by_
      rw [hext q hq] at bz
      exact absurd by_ (hnew z1 z2 az bz)
    · obtain ⟨z1, z2⟩ := hold hy ay
      rw [hl] at bz hp
      rw [rup_same] at bz
      rw [hext p hp] at by_
      exact absurd bz (hnew z1 z2 ay by_)
    · rw [hl] at hp hq
      rw [hext p hp] at by_
      rw [hext q hq] at bz
      exact H.dist p q y z c (hold hy ay).1 (hold hz az).1 ay az by_ bz
  · obtain ⟨p, y, hy, ay, by_⟩ := hc
    rcases get_app hy with ⟨rfl, rfl⟩ | ⟨hp, hy⟩
    · rw [hl, rup_same] at by_
      rcases ha c by_ with ⟨j, _, w, g1, g2, g3⟩ | g
      · exact .inl ⟨j, w, g1, g2, g3⟩
      · exact .inr g
    · rw [hl] at hp
      rw [hext p hp] at by_
      exact .inl ⟨p, y, (hold hy ay).1, ay, by_⟩
end
structure BN (T : Nat → Type) (E : Nat) where
  Ex : Nat
  e : TypeId
  eq : T E = List (T Ex)
structure BN1 (T : Nat → Type) (E : Nat) where
  Ex : Nat
  e : TypeId
  eq : T E = T Ex
def isSlx : XV T → Bool
  | .slx _ _ _ => true
  | _ => false
def isNil : XV T → Bool
  | .nil => true
  | _ => false
def isSc (v : XV T) : Bool := (scA v).isSome
/-- Which data are bundles', and what is known of them. -/
structure BunC (C : Codec T) where
  bn : (E : Nat) → Option (BN T E)
  b1 : (E : Nat) → Option (BN1 T E)
  sc : Nat → Bool
  gsh : ∀ E b, bn E = some b → ∀ x σ a, C.gsh E x σ a ↔ Bun C.enc b.e b.Ex σ (cast b.eq x) a
  gsh1 : ∀ E b, b1 E = some b → ∀ x σ a, C.gsh E x σ a ↔ Bun1 C.enc b.e b.Ex σ (cast b.eq x) a
  gsv : ∀ c l r a, C.gsv c l r a ↔ bunV c l r a
  flat : ∀ E b, bn E = some b → ∀ x v, v ∈ C.enc b.Ex x → (isSc v || isSlx v) = true
  flat1 : ∀ E b, b1 E = some b → ∀ x v, v ∈ C.enc b.Ex x → (isSc v || isSlx v) = true
  sc_ok : ∀ E, sc E = true → C.sz E = 1 ∧ ∀ x v, v ∈ C.enc E x → isSc v = true
/-- Which are made where: lists by make, elements by laying out. -/
structure BunM where
  mkL : TypeId → Option Nat
  mk1 : TypeId → Option Nat
def one0 : List (Nat × Operand) → Bool
  | [p] => Nat.beq p.1 0
  | _ => false
def bndC (i k sz j : Nat) : XV T → XV T
  | .slx E xs ys => .gv i (gc 2 sz j) [k, 0, xs.length, xs.length + ys.length]
  | v => v
def bndCs (i k sz : Nat) : Nat → List (XV T) → List (XV T)
  | _, [] => []
  | j, v :: l => bndC i k sz j v :: bndCs i k sz (j + 1) l
section
variable {C : Codec T} (B : BunC C) (M : BunM) (P : Program)
def bget (h : List (HI T)) (i : Nat) (k : (E : Nat) → (b : BN T E) → List (T b.Ex) → Option A) : Option A := match h[i]? with
  | some (.gen E x) => match B.bn E with
    | some b => k E b (cast b.eq x)
    | none => none
  | _ => none
def bunOn (o : Op) (vs : List (XV T)) : Bool := match o, vs with
  | .call c, .gv _ _ _ :: _ => isBuiltin c && Nat.beq c.args.size vs.length
  | .slice _ _ _ _ none, .gv _ _ _ :: _ => true
  | .indexAddr _ _ _, .gv _ _ _ :: _ => true
  | .fieldAddr _ _ _, .gv _ _ _ :: _ => true
  | .nilCheck _, .gv _ _ _ :: _ => true
  | .load _ _, .gv _ _ _ :: _ => true
  | .store _ _ _, .gv _ _ _ :: _ => true
  | .makeSlice t _ _, _ => (M.mkL t).isSome
  | .buildSlice t _ _, _ => (M.mk1 t).isSome
  | _, _ => false
/-- Lists of ours within an element that is laid out: they become the bundle's. -/
def bcs (h : List (HI T)) : List (XV T) → List Nat → (List (XV T) → List Nat → Option A) → Option A
  | [], ds, k => k [] ds
  | v :: l, ds, k => match v with
    | .as E a lo n (some c) => match h[a]? with
      | some (.arr _ E' _ all) => if hE : E' = E then if (B.sc E && !(ds.contains a)) = true ∧ lo = 0 ∧ all.length = c ∧ n ≤ c ∧ 0 < c then bcs h l (a :: ds) fun l' ds' => k (.slx E ((hE ▸ all : List (T E)).take n) ((hE ▸ all : List (T E)).drop n) :: l') ds' else none else none
      | _ => none
    | .nil => bcs h l ds fun l' ds' => k (.nil :: l') ds'
    | v => bif isSc v then bcs h l ds fun l' ds' => k (v :: l') ds' else none
def bunOp (o : Op) (vs : List (XV T)) (h : List (HI T)) (k : XV T → List (HI T) → Option A) : Option A := match o, vs with
  | .call c, [.gv i cd l] => match c.callee, l, c.argTypes[0]? with
    | .builtin .len, [lo, n, K], some t => bif Nat.beq (gk cd) 0 && (sliceA P t).isSome then k (.int .i64 (n : Nat)) h else none
    | .builtin .len, [q, lo, n, cp], some t => bif Nat.beq (gk cd) 2 && (sliceA P t).isSome then k (.int .i64 (n : Nat)) h else none
    | .builtin .cap, [lo, n, K], some t => bif Nat.beq (gk cd) 0 && (sliceA P t).isSome then k (.int .i64 ((K - lo : Nat) : Int)) h else none
    | .builtin .cap, [q, lo, n, cp], some t => bif Nat.beq (gk cd) 2 && (sliceA P t).isSome then k (.int .i64 (cp : Nat)) h else none
    | _, _, _ => none
  | .call c, [.gv i ci [lo, n, K], .gv j cj []] => match c.callee, c.argTypes.toList with
    | .builtin .append, [t, t'] => match sliceA P t, h[i]?, h[j]? with
      | some e, some (.gen E x), some (.gen E1 y) => match sizeA P e, B.bn E, B.b1 E1 with
        | some sz, some b, some b1 => if hE : b1.Ex = b.Ex then
            bif Nat.beq t t' && Nat.beq (gk ci) 0 && Nat.beq (gk cj) 0 && Nat.beq sz (C.sz b.Ex) && Nat.beq sz (gz ci) && Nat.beq b.e e && !(Nat.beq i j) then
              if lo = 0 ∧ n < K then hforce (killAll [i, j] h ++ [HI.gen E (cast b.eq.symm ((cast b.eq x).set n (hE ▸ cast b1.eq y)))]) fun h' => k (.gv h.length ci [0, n + 1, K]) h' else none
            else none
          else none
        | _, _, _ => none
      | _, _, _ => none
    | _, _ => none
  | .slice t _ lo hi none, .gv i cd l :: ix => match sliceA P t with
    | some e => match sizeA P e, l with
      | some sz, [a, n, K] => bif Nat.beq (gk cd) 0 && Nat.beq sz (gz cd) then match xends (T := T) n lo.isSome hi.isSome ix with
        | some (x, u) => if 0 ≤ x ∧ x ≤ u ∧ u ≤ ((K - a : Nat) : Int) ∧ x < ((K - a : Nat) : Int) then k (.gv i cd [a + x.toNat, u.toNat - x.toNat, K]) h else none
        | none => none
        else none
      | some sz, [q, a, n, cp] => bif Nat.beq (gk cd) 2 && Nat.beq sz 1 then match xends (T := T) n lo.isSome hi.isSome ix with
        | some (x, u) => if 0 ≤ x ∧ x ≤ u ∧ u ≤ ((cp : Nat) : Int) ∧ (x = 0 ∨ x < ((cp : Nat) : Int)) then k (.gv i cd [q, a + x.toNat, u.toNat - x.toNat, cp - x.toNat]) h else none
        | none => none
        else none
      | _, _ => none
    | none => none
  | .indexAddr t _ _, [.gv i cd l, .int _ m] => match sliceA P t with
    | some e => match sizeA P e, l with
      | some sz, [a, n, K] => bif Nat.beq (gk cd) 0 && Nat.beq sz (gz cd) && Nat.blt sz 64 then if 0 ≤ m ∧ m < (n : Int) then k (.gv i (gc 1 sz 0) [a + m.toNat]) h else none else none
      | some sz, [q, a, n, cp] => bif Nat.beq (gk cd) 2 && Nat.beq sz 1 && Nat.blt (gz cd) 64 then if 0 ≤ m ∧ m < (n : Int) then k (.gv i (gc 3 (gz cd) (gj cd)) [q, a + m.toNat]) h else none else none
      | _, _ => none
    | none => none
  | .fieldAddr t _ f, [.gv i cd [q]] => match structA P t with
    | some l => match l[f]? with
      | some (off, some (_ + 1), _) => bif Nat.beq (gk cd) 1 && Nat.blt (gz cd) 64 then k (.gv i (gc 1 (gz cd) (gj cd + off)) [q]) h else none
      | _ => none
    | none => none
  | .nilCheck _, [.gv i cd [q]] => bif Nat.beq (gk cd) 1 then k (.gv i cd [q]) h else none
  | .nilCheck _, [.gv i cd [p, q]] => bif Nat.beq (gk cd) 3 then k (.gv i cd [p, q]) h else none
  | .load t _, [.gv i cd [q]] => bget B h i fun E b xs => bif Nat.beq (gk cd) 1 && Nat.beq (gz cd) (C.sz b.Ex) && Nat.ble (gj cd) (C.sz b.Ex) && Nat.blt (gz cd) 64 then (xs[q]?).bind fun x => xcellsAt (aggA P t) (sizeA P t) ((bndCs i q (gz cd) 0 (C.enc b.Ex x)).drop (gj cd)) 0 fun v => k v h else none
  | .load t _, [.gv i cd [p, q]] => bget B h i fun E b xs => bif Nat.beq (gk cd) 3 && Nat.beq (gz cd) (C.sz b.Ex) then (xs[p]?).bind fun x => match (C.enc b.Ex x)[gj cd]? with
      | some (.slx F ys zs) => bif B.sc F then ((ys ++ zs)[q]?).bind fun y => xcellsAt (aggA P t) (sizeA P t) (C.enc F y) 0 fun v => k v h else none
      | _ => none
    else none
  | .store t _ _, [.gv i cd [q], v] => match h[i]? with
    | some (.gen E x) => match B.bn E, sizeA P t with
      | some b, some n => if (Nat.beq (gk cd) 1 && Nat.beq (gj cd) 0 && Nat.beq (gz cd) (C.sz b.Ex) && Nat.beq n (C.sz b.Ex) && v.isVal && Nat.beq v.cells.length n && v.cells.all fun u => isSc u || isNil u) = true then
          if q < (cast b.eq x).length then (C.dec b.Ex v.cells).bind fun x' => hforce (h.set i (HI.gen E (cast b.eq.symm ((cast b.eq x).set q x')))) fun h' => k .junk h' else none
        else none
      | _, _ => none
    | _ => none
  | .store t _ _, [.gv i cd [p, q], v] => match h[i]? with
    | some (.gen E x) => match B.bn E, sizeA P t with
      | some b, some n => ((cast b.eq x)[p]?).bind fun y => match (C.enc b.Ex y)[gj cd]? with
        | some (.slx F ys zs) => if (Nat.beq (gk cd) 3 && Nat.beq (gz cd) (C.sz b.Ex) && B.sc F && Nat.beq n 1 && v.isVal && Nat.beq v.cells.length 1 && v.cells.all isSc) = true then
            if q < (ys ++ zs).length then (C.dec F v.cells).bind fun w => (C.dec b.Ex ((C.enc b.Ex y).set (gj cd) (.slx F (((ys ++ zs).set q w).take ys.length) (((ys ++ zs).set q w).drop ys.length)))).bind fun y' => hforce (h.set i (HI.gen E (cast b.eq.symm ((cast b.eq x).set p y')))) fun h' => k .junk h' else none
          else none
        | _ => none
      | _, _ => none
    | _ => none
  | .makeSlice t _ _, [.int _ n, .int _ m] => match M.mkL t, sliceA P t with
    | some E, some e => match B.bn E, sizeA P e, zeroA P e, bytesA P e with
      | some b, some sz, some z, some by_ => if (Nat.beq sz (C.sz b.Ex) && Nat.beq z.cells.size sz && Nat.blt sz 64 && Nat.beq b.e e && ((List.range sz).map fun i => XV.ofV (T := T) (z.cells[i % sz]!)).all fun u => isSc u || isNil u) = true then
          if 0 ≤ n ∧ n ≤ m ∧ 0 < m ∧ m ≤ 140737488355328 ∧ (by_ : Int) * m ≤ 140737488355328 then (C.dec b.Ex ((List.range sz).map fun i => XV.ofV (z.cells[i % sz]!))).bind fun x => hforce (h ++ [HI.gen E (cast b.eq.symm (List.replicate m.toNat x))]) fun h' => k (.gv h.length (gc 0 sz 0) [0, n.toNat, m.toNat]) h' else none
        else none
      | _, _, _, _ => none
    | _, _ => none
  | .buildSlice t 1 parts, [.agg cells] => match M.mk1 t, sliceA P t with
    | some E, some e => match B.b1 E, sizeA P e, zeroA P e with
      | some b, some sz, some z => if (Nat.beq sz (C.sz b.Ex) && Nat.beq z.cells.size sz && Nat.blt sz 64 && Nat.ble sz 16777216 && Nat.beq b.e e && cells.all XV.one && Nat.beq cells.length sz && one0 parts.toList) = true then
          bcs B h cells [] fun cells' ds => (C.dec b.Ex cells').bind fun x => hforce (killAll ds h ++ [HI.gen E (cast b.eq.symm x)]) fun h' => k (.gv h.length (gc 0 sz 0) []) h'
        else none
      | _, _, _ => none
    | _, _ => none
  | _, _ => none
end
end Go.Proofs.Ytlaehnldaejipaa
