/- What comes in, read as data: by the type's shape, whatever the type (whole numbers, truths, texts, lists, structs of these). -/
import Derived.Test.YteempnebenjkmaaGreatDoorBa
import Derived.ProofKit
import Derived.SizedLaws
namespace Go.Proofs.YteempnebenjkmaaGreatDoor
open Go.RowKit
set_option maxRecDepth 100000
inductive Sh where
 | i (k : IntKind)
 | b
 | s
 | l (cells : List Sh)
def Zn3 : List Sh -> Nat
 | [] => 0
 | .i k :: l => k.bits / 8 + Zn3 l
 | .b :: l => 1 + Zn3 l
 | .s :: l => 16 + Zn3 l
 | .l _ :: l => 24 + Zn3 l
def ZeM (P : Program) (g : TypeId -> Option (List Sh)) : List Field -> Nat -> Option (List Sh)
 | [], _ => some []
 | f :: r, off => match g f.type with
  | some cs => if f.offset = off /\ P.cellsOf f.type = cs.length then (ZeM P g r (off + cs.length)).map (cs ++ ·) else none
  | none => none
def ZjM (P : Program) : Nat -> TypeId -> Option (List Sh)
 | 0, _ => none
 | fuel + 1, t => match P.underlying t with
  | some .bool => some [.b]
  | some (.int k) => some [.i k]
  | some .string => some [.s]
  | some (.slice e) => match ZjM P fuel e with
   | some cs => if P.cellsOf e = cs.length /\ 0 < cs.length /\ 1 <= P.bytesOf e /\ Zn3 cs <= P.bytesOf e then some [.l cs] else none
   | none => none
  | some (.struct fs) => match ZeM P (ZjM P fuel) fs.toList 0 with
   | some cs => if P.cellsOf t = cs.length then some cs else none
   | none => none
  | _ => none
inductive ZtV : Sh -> D -> Prop
 | i (k : IntKind) (n : Int) (h : (Lit.int k n).wf = true) : ZtV (.i k) (.i k n)
 | b (x : Bool) : ZtV .b (.b x)
 | s (l : List UInt8) (h : l.length <= 140737488355328) : ZtV .s (.s l)
 | l (cs : List Sh) (n : Nat) (ds : List D) (hl : ds.length = n * cs.length) (hm : n * Zn3 cs <= 140737488351232) (h : ∀ (i j : Nat) (sh : Sh) (d : D), i < n -> cs[j]? = some sh -> ds[i * cs.length + j]? = some d -> ZtV sh d) : ZtV (.l cs) (.l cs.length ds)
def Zbp : List Sh -> List D -> Prop
 | [], [] => True
 | x :: ss, d :: ds => ZtV x d /\ Zbp ss ds
 | _, _ => False
theorem Zbp.length : ∀ {ss : List Sh} {ds : List D}, Zbp ss ds -> ds.length = ss.length
 | [], [], _ => rfl
 | _ :: _, _ :: _, h => by simp [h.2.length]
 | [], _ :: _, h => h.elim
 | _ :: _, [], h => h.elim
theorem Zbp.get : ∀ {ss : List Sh} {ds : List D}, Zbp ss ds -> ∀ (j : Nat) (x : Sh) (d : D), ss[j]? = some x -> ds[j]? = some d -> ZtV x d
 | [], [], _, j, x, d, h, _ => by simp at h
 | _ :: _, _ :: _, h, 0, x, d, h1, h2 => by simp at h1 h2; subst h1 h2; exact h.1
 | _ :: _, _ :: _, h, j + 1, x, d, h1, h2 => by simp at h1 h2; exact h.2.get j x d h1 h2
 | [], _ :: _, h, _, _, _, _, _ => h.elim
 | _ :: _, [], h, _, _, _, _, _ => h.elim
theorem Zbp.append : ∀ {ss : List Sh} {ds : List D} {ts : List Sh} {es : List D}, Zbp ss ds -> Zbp ts es -> Zbp (ss ++ ts) (ds ++ es)
 | [], [], _, _, _, h => h
 | _ :: _, _ :: _, _, _, h, k => ⟨h.1, h.2.append k⟩
 | [], _ :: _, _, _, h, _ => h.elim
 | _ :: _, [], _, _, h, _ => h.elim
theorem Zr2 {α β : Type} {f : α -> Option β} : ∀ {l : List α} {r : List β}, l.mapM f = some r -> ∀ (i : Nat) (x : α), l[i]? = some x -> ∃ y, r[i]? = some y /\ f x = some y
 | [], r, h, i, x, hx => by simp at hx
 | a :: l, r, h, i, x, hx => by
  rw [List.mapM_cons] at h
  simp only [Option.pure_def, Option.bind_eq_bind, Option.bind_eq_some_iff, Option.some.injEq] at h
  obtain ⟨b, hb, bs, hbs, rfl⟩ := h
  cases i with
  | zero => simp at hx; subst hx; exact ⟨b, rfl, hb⟩
  | succ i => simp at hx ⊢; exact Zr2 hbs i x hx
theorem ZlS {α β : Type} {f : α -> Option β} : ∀ {l : List α} {r : List β}, l.mapM f = some r -> r.length = l.length
 | [], r, h => by simp at h; simp [h]
 | a :: l, r, h => by
  rw [List.mapM_cons] at h
  simp only [Option.pure_def, Option.bind_eq_bind, Option.bind_eq_some_iff, Option.some.injEq] at h
  obtain ⟨b, hb, bs, hbs, rfl⟩ := h
  simp [ZlS hbs]
theorem cells?_get {w : World} {base : Nat} {a : Addr} {n : Nat} {cs : List Value} (h : w.cells? base a n = some cs) : cs.length = n /\ base <= a.block /\ ∀ (i : Nat) (v : Value), cs[i]? = some v -> w.cell? (a.add i) = some v := by
 unfold World.cells? at h
 split at h
 ·next hb =>
  have hl := ZlS h
  rw [List.length_range] at hl
  refine ⟨hl, hb, fun i v hv => ?_⟩
  have hi : i < n := by rw [<- hl]; exact (List.getElem?_eq_some_iff.1 hv).1
  obtain ⟨y, hy, he⟩ := Zr2 h i i (by simp [hi])
  rw [hv] at hy
  injection hy with hy
  rw [he, hy]
 ·cases h
theorem ZhZ {H : Type} {P : Program} {e : TypeId} : ∀ {ds : List (DataW H)} {d : DataW H}, d ∈ ds -> ∀ n ∈ d.weights P e, n ∈ DataW.weightsAll P e ds
 | x :: r, d, hd, n, hn => by
  simp only [DataW.weightsAll, List.mem_append]
  rcases List.mem_cons.1 hd with rfl | hd
  ·exact .inl hn
  ·exact .inr (ZhZ hd n hn)
theorem Zte {α : Type} (l : List α) (off n : Nat) : l.drop off = (l.drop off).take n ++ l.drop (off + n) := by
 rw [<- List.drop_drop]; exact (List.take_append_drop n _).symm
theorem Zim {α : Type} (f : Nat -> List α) (m : Nat) : ∀ n, (∀ i, i < n -> (f i).length = m) -> ((List.range n).flatMap f).length = n * m
 | 0, _ => by simp
 | n + 1, h => by
  rw [List.range_succ, List.flatMap_append, List.length_append, Zim f m n (fun i hi => h i (by omega))]
  simp only [List.flatMap_cons, List.flatMap_nil, List.append_nil]
  rw [h n (by omega), Nat.succ_mul]
theorem Zr3 {α : Type} (f : Nat -> List α) (m : Nat) : ∀ n, (∀ i, i < n -> (f i).length = m) -> ∀ i j, i < n -> j < m -> ((List.range n).flatMap f)[i * m + j]? = (f i)[j]?
 | 0, _, i, j, hi, _ => by omega
 | n + 1, h, i, j, hi, hj => by
  rw [List.range_succ, List.flatMap_append]
  simp only [List.flatMap_cons, List.flatMap_nil, List.append_nil]
  have hl := Zim f m n (fun i hi => h i (by omega))
  by_cases hin : i < n
  ·have : i * m + j < n * m := by
    calc i * m + j < i * m + m := by omega
     _ = (i + 1) * m := by rw [Nat.succ_mul]
     _ <= n * m := Nat.mul_le_mul_right m hin
   rw [List.getElem?_append_left (by omega)]
   exact Zr3 f m n (fun i hi => h i (by omega)) i j hin hj
  ·have : i = n := by omega
   subst this
   rw [List.getElem?_append_right (by omega), hl, Nat.add_sub_cancel_left]
section
variable {H : Type} {enc : TypeId × Value -> H} {P : Program} {w : World} {base : Nat} {spare : Nat -> Bool} {held : Bool}
abbrev Old (w : World) : Nat -> Prop := fun k => k < w.heap.size
theorem ZiO {fuel : Nat} {g : TypeId -> Option (List Sh)}
 (ih : ∀ (t : TypeId) (shs : List Sh) (cs : List Value) (d : DataW H) (ps : List MemPlace), g t = some shs -> DataW.trod enc P w base spare held fuel t cs = some (d, ps) -> (∀ n ∈ d.weights P t, n <= reachBytes) -> ∃ ds, Zd3 (Old w) w ds cs /\ Zbp shs ds) :
 ∀ (fs : List Field) (off : Nat) (shs : List Sh) (cs : List Value) (xs : List (DataW H × List MemPlace)), ZeM P g fs off = some shs -> off + shs.length = cs.length ->
  (fs.mapM fun f => DataW.trod enc P w base spare held fuel f.type ((cs.drop f.offset).take (P.cellsOf f.type))) = some xs -> (∀ n ∈ DataW.weightsEach P (fs.map (·.type)) (xs.map (·.1)), n <= reachBytes) ->
  ∃ ds, Zd3 (Old w) w ds (cs.drop off) /\ Zbp shs ds
 | [], off, shs, cs, xs, hs, hl, _, _ => by
  simp only [ZeM, Option.some.injEq] at hs
  subst hs
  refine ⟨[], ?_, trivial⟩
  rw [List.drop_eq_nil_of_le (by simp at hl; omega)]
  trivial
 | f :: r, off, shs, cs, xs, hs, hl, hx, hw => by
  unfold ZeM at hs
  split at hs
  ·next c hc =>
   split at hs
   ·next hcond =>
    obtain ⟨ho, hce⟩ := hcond
    simp only [Option.map_eq_some_iff] at hs
    obtain ⟨rest, hrest, rfl⟩ := hs
    rw [List.mapM_cons] at hx
    simp only [Option.pure_def, Option.bind_eq_bind, Option.bind_eq_some_iff, Option.some.injEq] at hx
    obtain ⟨b, hb, bs, hbs, rfl⟩ := hx
    obtain ⟨d0, p0⟩ := b
    simp only [List.map_cons, DataW.weightsEach, List.mem_append] at hw
    obtain ⟨ds0, hr0, hf0⟩ := ih _ _ _ _ _ hc hb (fun n hn => hw n (.inl hn))
    rw [List.length_append] at hl
    obtain ⟨ds1, hr1, hf1⟩ := ZiO ih r (off + c.length) rest cs bs hrest (by omega) hbs (fun n hn => hw n (.inr hn))
    refine ⟨ds0 ++ ds1, ?_, hf0.append hf1⟩
    rw [Zte cs off c.length]
    rw [ho, hce] at hr0
    exact hr0.append hr1
   ·cases hs
  ·cases hs
theorem Zr4 : ∀ (fuel k : Nat) (t : TypeId) (shs : List Sh) (cs : List Value) (d : DataW H) (ps : List MemPlace), ZjM P k t = some shs ->
 DataW.trod enc P w base spare held fuel t cs = some (d, ps) -> (∀ n ∈ d.weights P t, n <= reachBytes) -> ∃ ds, Zd3 (Old w) w ds cs /\ Zbp shs ds
 | 0, k, t, shs, cs, d, ps, _, h, _ => by simp [DataW.trod] at h
 | fuel + 1, 0, t, shs, cs, d, ps, hs, _, _ => by simp [ZjM] at hs
 | fuel + 1, k + 1, t, shs, cs, d, ps, hs, h, hw => by
  unfold ZjM at hs
  split at hs
  ·next hu =>
   injection hs with hs; subst hs
   obtain ⟨x, rfl, hx⟩ := DataW.trod_bool hu h
   exact ⟨[.b x], ⟨rfl, trivial⟩, ⟨.b x, trivial⟩⟩
  ·next kk hu =>
   injection hs with hs; subst hs
   obtain ⟨n, rfl, hx, hwf⟩ := DataW.trod_int hu h
   exact ⟨[.i kk n], ⟨rfl, trivial⟩, ⟨.i kk n hwf, trivial⟩⟩
  ·next hu =>
   injection hs with hs; subst hs
   obtain ⟨x, rfl, hx, hl⟩ := DataW.trod_string hu h
   injection hx with hx _
   subst hx
   refine ⟨[.s x.data.toList], ⟨rfl, trivial⟩, ⟨.s _ ?_, trivial⟩⟩
   have := hw x.data.toList.length (by simp [DataW.weights])
   simp only [reachBytes] at this
   omega
  ·next e hu =>
   split at hs
   ·next c hc =>
    split at hs
    ·next hcond =>
     obtain ⟨hce, hcp, hby, hma⟩ := hcond
     injection hs with hs; subst hs
     rcases DataW.trod_slice hu h with ⟨rfl, _⟩ | ⟨a, len, cap, elems, rest, n, hfu, rfl, hx, hb, hlc, hcm, hel, helems, _, _⟩
     ·exact ⟨[.l c.length []], ⟨Rep.of_list (by simp) (by omega) (by simp [maxLen]) (by omega) (fun _ => ⟨rfl, rfl⟩) (fun ad ha _ => by cases ha), trivial⟩, ⟨.l c 0 [] (by simp) (by simp) (fun i j sh d hi => by omega), trivial⟩⟩
     ·injection hfu with hfu
      subst hfu
      injection hx with hx _
      subst hx
      have hreach : (elems.length + rest.length) * P.bytesOf e <= reachBytes := by
       have := hw ((elems.length + rest.length) * P.bytesOf e) (by simp [DataW.weights, hu])
       exact this
      have hlen : len <= 140737488355328 := by
       have h1 : len * 1 <= (elems.length + rest.length) * P.bytesOf e := Nat.mul_le_mul (by omega) hby
       simp only [reachBytes] at hreach
       omega
      have hroom : len * Zn3 c <= 140737488351232 := by
       have h1 : len * Zn3 c <= (elems.length + rest.length) * P.bytesOf e := Nat.mul_le_mul (by omega) hma
       simp only [reachBytes] at hreach
       omega
      have hel' : ∀ i, i < len -> ∃ vs ds, w.cells? base (a.add (i * c.length)) c.length = some vs /\ Zd3 (Old w) w ds vs /\ Zbp c ds := by
       intro i hi
       have h1 := helems i hi
       rw [hce] at h1
       rw [List.getElem?_eq_getElem (by omega)] at h1
       simp only [Option.bind_eq_some_iff] at h1
       obtain ⟨vs, hvs, htr⟩ := h1
       obtain ⟨ds, hr, hf⟩ := Zr4 fuel k e c vs elems[i].1 elems[i].2 hc htr (fun m hm => hw m (by
        simp only [DataW.weights, hu, List.mem_cons, List.mem_append]
        exact .inr (.inl (ZhZ (List.mem_map_of_mem (List.getElem_mem (by omega))) m hm))))
       exact ⟨vs, ds, hvs, hr, hf⟩
      have hch : ∃ f : Nat -> List D, ∀ i, i < len -> ∃ vs, w.cells? base (a.add (i * c.length)) c.length = some vs /\ Zd3 (Old w) w (f i) vs /\ Zbp c (f i) := by
       refine ⟨fun i => if hi : i < len then Classical.choose (Classical.choose_spec (hel' i hi)) else [], fun i hi => ?_⟩
       have := Classical.choose_spec (Classical.choose_spec (hel' i hi))
       dsimp only
       rw [dif_pos hi]
       exact ⟨_, this⟩
      obtain ⟨f, hf⟩ := hch
      have hfl : ∀ i, i < len -> (f i).length = c.length := fun i hi => by obtain ⟨_, _, _, h3⟩ := hf i hi; exact h3.length
      have hget := Zr3 f c.length len hfl
      have hlenf := Zim f c.length len hfl
      refine ⟨[.l c.length ((List.range len).flatMap f)], ⟨Rep.of_list hlenf hlc hcm hlen (fun h => by cases h) ?_, trivial⟩, ⟨.l c len _ hlenf hroom ?_, trivial⟩⟩
      ·intro ad ha hp
       injection ha with ha
       subst ha
       have hblk : a.block < w.heap.size := by
        obtain ⟨vs, h1, h2, h3⟩ := hf 0 hp
        obtain ⟨h4, _, h6⟩ := cells?_get h1
        have h7 := h6 0 vs[0] (List.getElem?_eq_getElem (by omega))
        have := World.block_lt_of_cell? w _ h7
        rwa [Addr.block_add, Addr.block_add] at this
       refine ⟨hblk, hblk, ?_⟩
       intro j d hd
       have hj : j < len * c.length := by rw [<- hlenf]; exact (List.getElem?_eq_some_iff.1 hd).1
       have h1 : j / c.length * c.length + j % c.length = j := by rw [Nat.mul_comm]; exact Nat.div_add_mod j c.length
       have h2 : j % c.length < c.length := Nat.mod_lt _ hcp
       have h3 : j / c.length < len := Nat.div_lt_of_lt_mul (by rw [Nat.mul_comm]; exact hj)
       rw [<- h1, hget _ _ h3 h2] at hd
       obtain ⟨vs, h4, h5, h6⟩ := hf _ h3
       obtain ⟨v, h7, h8⟩ := h5.get hd
       obtain ⟨_, _, h9⟩ := cells?_get h4
       have := h9 _ v h7
       rw [Addr.add_add, h1] at this
       exact ⟨v, this, h8⟩
      ·intro i j sh d hi hj hd
       obtain ⟨vs, _, _, h3⟩ := hf i hi
       have hjl : j < c.length := (List.getElem?_eq_some_iff.1 hj).1
       rw [hget i j hi hjl] at hd
       exact h3.get j sh d hj hd
    ·cases hs
   ·cases hs
  ·next fs hu =>
   split at hs
   ·next c hc =>
    split at hs
    ·next hce =>
     injection hs with hs; subst hs
     unfold DataW.trod at h
     rw [hu] at h
     dsimp only at h
     split at h
     ·next hl =>
      simp only [Option.map_eq_some_iff] at h
      obtain ⟨xs, hxs, hx⟩ := h
      injection hx with hx _
      subst hx
      obtain ⟨ds, h1, h2⟩ := ZiO (fun t shs cs d ps => Zr4 fuel k t shs cs d ps) fs.toList 0 c cs xs hc (by omega) hxs (fun n hn => hw n (by simp only [DataW.weights, hu]; exact hn))
      exact ⟨ds, by simpa using h1, h2⟩
     ·cases h
    ·cases hs
   ·cases hs
  ·cases hs
end
theorem Zvb {d : D} (h : ZtV (.i .u8) d) : ∃ b, d = dB b := by
 cases h with
 | i _ n hw =>
  have : 0 <= n /\ n <= 255 := by simpa [Lit.wf, IntKind.bits, IntKind.signed, IntKind.min, IntKind.max] using hw
  exact ⟨UInt8.ofNat n.toNat, by simp [dB]; omega⟩
end Go.Proofs.YteempnebenjkmaaGreatDoor
