/- Bundles: operations that read, in the model. -/
import Derived.Test.YtlaehnldaejipaaBo
namespace Go.Proofs.Ytlaehnldaejipaa
open Go.RowKit
set_option linter.unusedSimpArgs false
set_option maxRecDepth 100000
set_option linter.unusedVariables false
variable {T : Nat → Type} {A : Type}
abbrev SoundA (C : Codec T) (P : Program) (U : Nat → Prop) (o : Op) (vs : List (XV T)) (h : List (HI T)) (k : XV T → List (HI T) → Option A) (z : A) : Prop :=
  ∃ r h', k r h' = some z ∧ ∀ (d : Option Nat) (ty : TypeId) (pos : String) (af : Array Edge) (g : Option (Nat × Bool)), OpTr C P U ⟨d, o, ty, pos, af, g⟩ vs h r h'
theorem bunV0 {cd lo n K : Nat} {r a : AV} (hk : gk cd = 0) : bunV cd [lo, n, K] r a ↔ ∃ b names, r = .tup (ptr b 0 :: names) ∧ a = .raw (.slice (some ⟨b, lo * gz cd, none⟩) n (K - lo)) ∧ names.length = K * gz cd ∧ lo + n ≤ K ∧ lo < K ∧ K ≤ 140737488355328 := by
  unfold bunV
  rw [hk]
  constructor
  · rintro ⟨hd, names, rfl, b, rfl, h⟩; exact ⟨b, names, rfl, h⟩
  · rintro ⟨b, names, rfl, h⟩; exact ⟨_, names, rfl, b, rfl, h⟩
theorem bunVe {cd : Nat} {r a : AV} (hk : gk cd = 0) : bunV cd [] r a ↔ ∃ b cells names, r = .tup (a :: names) ∧ a = .lst (some ⟨b, 0, none⟩) 1 1 cells := by
  unfold bunV
  rw [hk]
  constructor
  · rintro ⟨hd, names, rfl, rfl, b, cells, rfl⟩; exact ⟨b, cells, names, rfl, rfl⟩
  · rintro ⟨b, cells, names, rfl, rfl⟩; exact ⟨_, names, rfl, rfl, b, cells, rfl⟩
theorem bunV1 {cd q : Nat} {r a : AV} (hk : gk cd = 1) : bunV cd [q] r a ↔ ∃ b names, r = .tup (ptr b 0 :: names) ∧ a = ptr b (q * gz cd + gj cd) := by
  unfold bunV
  rw [hk]
  constructor
  · rintro ⟨hd, names, rfl, b, rfl, h⟩; exact ⟨b, names, rfl, h⟩
  · rintro ⟨b, names, rfl, h⟩; exact ⟨_, names, rfl, b, rfl, h⟩
theorem bunV2 {cd q lo n cp : Nat} {r a : AV} (hk : gk cd = 2) : bunV cd [q, lo, n, cp] r a ↔ ∃ hd names, r = .tup (hd :: names) ∧ ((n = 0 ∧ cp = 0 ∧ (a = .raw (.slice none 0 0) ∨ a = .lst none 0 0 [])) ∨ (∃ g, names[q * gz cd + gj cd]? = some (ptr g 0) ∧ a = .raw (.slice (some ⟨g, lo, none⟩) n cp) ∧ n ≤ cp ∧ 0 < cp)) := by
  unfold bunV
  rw [hk]
  exact Iff.rfl
theorem bunV3 {cd p q : Nat} {r a : AV} (hk : gk cd = 3) : bunV cd [p, q] r a ↔ ∃ hd names, r = .tup (hd :: names) ∧ ∃ g, names[p * gz cd + gj cd]? = some (ptr g 0) ∧ a = ptr g q := by
  unfold bunV
  rw [hk]
  exact Iff.rfl
section
variable {C : Codec T} {P : Program} {U : Nat → Prop} {N : Nat} {ρ : Nat → AV} {h : List (HI T)} {σ : St} {t e sz : Nat} {z : A} {k : XV T → List (HI T) → Option A}
theorem sv_bun (B : BunC C) {i cd : Nat} {l : List Nat} {a : AV} (hs : SV C N ρ (.gv i cd l) a) : i < N ∧ bunV cd l (ρ i) a := by
  obtain ⟨h1, h2⟩ := sv_gv.1 hs
  exact ⟨h1, (B.gsv _ _ _ _).1 h2⟩
theorem bun_sv (B : BunC C) {i cd : Nat} {l : List Nat} {a : AV} (h1 : i < N) (h2 : bunV cd l (ρ i) a) : SV C N ρ (.gv i cd l) a := sv_gv.2 ⟨h1, (B.gsv _ _ _ _).2 h2⟩
theorem slA_some {t : TypeId} (h : (sliceA P t).isSome = true) : ∃ e, sliceA P t = some e := by
  cases hs : sliceA P t with
  | none => rw [hs] at h; cases h
  | some e => exact ⟨e, rfl⟩
theorem pr_cap {d : Option Nat} {ty t : TypeId} {pos : String} {af : Array Edge} {g : Option (Nat × Bool)} {as_ : Array Operand} {ts : Array TypeId} {e : TypeId} {a : AV} {X : Option Addr} {n c : Nat} (hts : ts[0]? = some t) (he : sliceA P t = some e) (ha : a.val = .slice X n c) : PureRun P ⟨d, .call ⟨.builtin .cap, as_, ts⟩, ty, pos, af, g⟩ [a] (.int .i64 (c : Nat)) := fun ρ' hρ w _ _ => by
  obtain ⟨x, rfl, hx⟩ := arr1 (as_ := as_) (f := ρ') (y := .slice X n c) (by simpa [Op.operands, Call.operands, ha] using hρ)
  simp [execOp, resolve, invoke, builtin, Builtin.cap_, hx, hts, run_underlying (run_slice' he), goInt]
theorem pr_lenV {d : Option Nat} {ty t : TypeId} {pos : String} {af : Array Edge} {g : Option (Nat × Bool)} {as_ : Array Operand} {ts : Array TypeId} {e : TypeId} {a : AV} {X : Option Addr} {n c : Nat} (hts : ts[0]? = some t) (he : sliceA P t = some e) (ha : a.val = .slice X n c) : PureRun P ⟨d, .call ⟨.builtin .len, as_, ts⟩, ty, pos, af, g⟩ [a] (.int .i64 (n : Nat)) := fun ρ' hρ w _ _ => by
  obtain ⟨x, rfl, hx⟩ := arr1 (as_ := as_) (f := ρ') (y := .slice X n c) (by simpa [Op.operands, Call.operands, ha] using hρ)
  simp [execOp, resolve, invoke, builtin, Builtin.len_, hx, hts, run_underlying (run_slice' he), goInt]
theorem val0 {cd lo n K : Nat} {r a : AV} (hk : gk cd = 0) (h : bunV cd [lo, n, K] r a) : ∃ X, a.val = .slice X n (K - lo) := by
  obtain ⟨b, names, rfl, rfl, _⟩ := (bunV0 hk).1 h
  exact ⟨_, AV.val_raw _⟩
theorem val2 {cd q lo n cp : Nat} {r a : AV} (hk : gk cd = 2) (h : bunV cd [q, lo, n, cp] r a) : ∃ X, a.val = .slice X n cp := by
  obtain ⟨hd, names, rfl, ⟨rfl, rfl, rfl | rfl⟩ | ⟨g, _, rfl, _⟩⟩ := (bunV2 hk).1 h
  · exact ⟨_, AV.val_raw _⟩
  · exact ⟨_, AV.val_lst _ _ _ _⟩
  · exact ⟨_, AV.val_raw _⟩
theorem b_len (B : BunC C) {i cd n : Nat} {l : List Nat} {as_ : Array Operand} {ts : Array TypeId} (hts : ts[0]? = some t) (he : (sliceA P t).isSome = true) (hv : ∀ r a, bunV cd l r a → ∃ X c, a.val = .slice X n c) (hk : k (.int .i64 (n : Nat)) h = some z) : SoundA C P U (.call ⟨.builtin .len, as_, ts⟩) [.gv i cd l] h k z := by
  obtain ⟨e, he⟩ := slA_some he
  refine ⟨_, h, hk, fun d ty pos af g => OpTr.same fun ρ σ as_ K hs H hK => ?_⟩
  obtain ⟨a, rfl, h3⟩ := svs1.1 hs
  obtain ⟨X, c, ha⟩ := hv _ _ (sv_bun B h3).2
  exact .inl ⟨_, pr_lenV hts he ha, hK _ (sv_int.2 rfl)⟩
theorem b_cap (B : BunC C) {i cd c : Nat} {l : List Nat} {as_ : Array Operand} {ts : Array TypeId} (hts : ts[0]? = some t) (he : (sliceA P t).isSome = true) (hv : ∀ r a, bunV cd l r a → ∃ X n, a.val = .slice X n c) (hk : k (.int .i64 (c : Nat)) h = some z) : SoundA C P U (.call ⟨.builtin .cap, as_, ts⟩) [.gv i cd l] h k z := by
  obtain ⟨e, he⟩ := slA_some he
  refine ⟨_, h, hk, fun d ty pos af g => OpTr.same fun ρ σ as_ K hs H hK => ?_⟩
  obtain ⟨a, rfl, h3⟩ := svs1.1 hs
  obtain ⟨X, n, ha⟩ := hv _ _ (sv_bun B h3).2
  exact .inl ⟨_, pr_cap hts he ha, hK _ (sv_int.2 rfl)⟩
theorem ends_raw {n c : Nat} {lo hi : Option Operand} {ix : List (XV T)} {bs : List AV} {l u : Int} (hends : xends (T := T) n lo.isSome hi.isSome ix = some (l, u)) (hs : SVs C N ρ ix bs) (h0 : 0 ≤ l) (h1 : l ≤ u) : sliceEnds n c lo.isSome hi.isSome (none : Option Operand).isSome bs l.toNat u.toNat c := by
  generalize lo.isSome = bl at hends ⊢
  generalize hi.isSome = bh at hends ⊢
  unfold xends at hends
  split at hends
  · injection hends with hends; injection hends with f1 f2; subst f1 f2
    rw [SVs_nil] at hs; subst hs
    exact ⟨rfl, by simp, rfl⟩
  · injection hends with hends; injection hends with f1 f2; subst f1 f2
    obtain ⟨b, rfl, h5⟩ := svs1.1 hs
    rw [sv_int.1 h5]
    exact ⟨⟨_, (AV.val_raw _).trans (congrArg (Value.int _) (Int.toNat_of_nonneg (by omega)).symm)⟩, by simp, rfl⟩
  · injection hends with hends; injection hends with f1 f2; subst f1 f2
    obtain ⟨b, rfl, h5⟩ := svs1.1 hs
    rw [sv_int.1 h5]
    exact ⟨rfl, ⟨_, (AV.val_raw _).trans (congrArg (Value.int _) (Int.toNat_of_nonneg (by omega)).symm)⟩, rfl⟩
  · injection hends with hends; injection hends with f1 f2; subst f1 f2
    obtain ⟨b, b', rfl, h5, h6⟩ := svs2.1 hs
    rw [sv_int.1 h5, sv_int.1 h6]
    exact ⟨⟨_, (AV.val_raw _).trans (congrArg (Value.int _) (Int.toNat_of_nonneg (by omega)).symm)⟩, ⟨_, (AV.val_raw _).trans (congrArg (Value.int _) (Int.toNat_of_nonneg (by omega)).symm)⟩, rfl⟩
  · cases hends
/-- A slice expression over a list's raw value. -/
theorem slice_raw {d : Option Nat} {ty : TypeId} {pos : String} {af : Array Edge} {g : Option (Nat × Bool)} {x : Operand} {lo hi : Option Operand} {X : Option Addr} {n c : Nat} {ix : List (XV T)} {bs : List AV} {l u : Int} {K : AV → St → Prop} (he : sliceA P t = some e) (hsz : sizeA P e = some sz)
    (hends : xends (T := T) n lo.isSome hi.isSome ix = some (l, u)) (hs : SVs C N ρ ix bs) (h0 : 0 ≤ l) (h1 : l ≤ u) (h2 : u ≤ (c : Int)) (hK : K (.raw (.slice (if c = l.toNat then X else X.map (·.add (l.toNat * sz))) (u.toNat - l.toNat) (c - l.toNat))) σ) :
    aVal P ⟨d, .slice t x lo hi none, ty, pos, af, g⟩ (.raw (.slice X n c) :: bs) σ K := by
  have hse := ends_raw (c := c) hends hs h0 h1
  refine ⟨_, fun ρ' hρ w _ _ => ?_, hK⟩
  have hρ' : ρ' x = .slice X n c ∧ (lo.toArray ++ hi.toArray ++ (none : Option Operand).toArray).toList.map ρ' = bs.map AV.val := by
    simp [Op.operands] at hρ ⊢
    exact hρ
  have hr := run_sliceAt (P := P) (w := w) (A := X) he hsz hρ'.2 hse (by omega) (by omega) (Nat.le_refl _)
  simp only [execOp, hρ'.1, Sem.run_bind, hr, Result.andThen_ok, Sem.run_pure]
theorem slice_none {d : Option Nat} {ty : TypeId} {pos : String} {af : Array Edge} {g : Option (Nat × Bool)} {x : Operand} {lo hi : Option Operand} {ix : List (XV T)} {bs : List AV} {l u : Int} {K : AV → St → Prop} (he : sliceA P t = some e) (hsz : sizeA P e = some sz)
    (hends : xends (T := T) ((0 : Nat) : Int) lo.isSome hi.isSome ix = some (l, u)) (hs : SVs C N ρ ix bs) (h0 : 0 ≤ l) (h1 : l ≤ u) (h2 : u ≤ ((0 : Nat) : Int)) (hK : K (.lst none 0 0 []) σ) :
    aVal P ⟨d, .slice t x lo hi none, ty, pos, af, g⟩ (.lst none 0 0 [] :: bs) σ K := by
  have hse := ends_raw (c := 0) hends hs h0 h1
  have hl : l.toNat = 0 ∧ u.toNat = 0 := by omega
  rw [hl.1, hl.2] at hse
  exact ⟨e, sz, he, hsz, 0, 0, 0, hse, Nat.le_refl _, Nat.le_refl _, Nat.le_refl _, hK⟩
theorem b_slice0 (B : BunC C) {i cd a n K : Nat} {x : Operand} {lo hi : Option Operand} {ix : List (XV T)} {l u : Int} (he : sliceA P t = some e) (hsz : sizeA P e = some sz) (h1 : gk cd = 0) (h2 : sz = gz cd) (hends : xends (T := T) n lo.isSome hi.isSome ix = some (l, u)) (hb : 0 ≤ l ∧ l ≤ u ∧ u ≤ ((K - a : Nat) : Int) ∧ l < ((K - a : Nat) : Int))
    (hk : k (.gv i cd [a + l.toNat, u.toNat - l.toNat, K]) h = some z) : SoundA C P U (.slice t x lo hi none) (.gv i cd [a, n, K] :: ix) h k z := by
  obtain ⟨b1, b2, b3, b4⟩ := hb
  refine ⟨_, h, hk, fun d ty pos af g => OpTr.same fun ρ σ as_ Kk hs H hK => ?_⟩
  obtain ⟨v, bs, rfl, h3, h4⟩ := hs.to
  obtain ⟨hi', hv⟩ := sv_bun B h3
  obtain ⟨b, names, hr, rfl, q1, q2, q3, q4⟩ := (bunV0 h1).1 hv
  refine slice_raw he hsz hends h4 b1 b2 b3 (hK _ (bun_sv B hi' ((bunV0 h1).2 ⟨b, names, hr, ?_, q1, by omega, by omega, q4⟩)))
  rw [if_neg (by omega)]
  show AV.raw (.slice (some ((⟨b, a * gz cd, none⟩ : Addr).add (l.toNat * sz))) _ _) = _
  rw [add_off_, h2, Nat.add_mul, show K - a - l.toNat = K - (a + l.toNat) from by omega]
theorem b_slice2 (B : BunC C) {i cd q a n cp : Nat} {x : Operand} {lo hi : Option Operand} {ix : List (XV T)} {l u : Int} (he : sliceA P t = some e) (hsz : sizeA P e = some sz) (h1 : gk cd = 2) (h2 : sz = 1) (hends : xends (T := T) n lo.isSome hi.isSome ix = some (l, u)) (hb : 0 ≤ l ∧ l ≤ u ∧ u ≤ ((cp : Nat) : Int) ∧ (l = 0 ∨ l < ((cp : Nat) : Int)))
    (hk : k (.gv i cd [q, a + l.toNat, u.toNat - l.toNat, cp - l.toNat]) h = some z) : SoundA C P U (.slice t x lo hi none) (.gv i cd [q, a, n, cp] :: ix) h k z := by
  obtain ⟨b1, b2, b3, b4⟩ := hb
  refine ⟨_, h, hk, fun d ty pos af g => OpTr.same fun ρ σ as_ Kk hs H hK => ?_⟩
  obtain ⟨v, bs, rfl, h3, h4⟩ := hs.to
  obtain ⟨hi', hv⟩ := sv_bun B h3
  obtain ⟨hd, names, hr, ⟨rfl, rfl, rfl | rfl⟩ | ⟨g', q1, rfl, q2, q3⟩⟩ := (bunV2 h1).1 hv
  · refine slice_raw he hsz hends h4 b1 b2 b3 (hK _ (bun_sv B hi' ((bunV2 h1).2 ⟨hd, names, hr, .inl ⟨by omega, by omega, .inl ?_⟩⟩)))
    have : l.toNat = 0 ∧ u.toNat = 0 := by omega
    rw [this.1, this.2]; rfl
  · exact slice_none he hsz hends h4 b1 b2 b3 (hK _ (bun_sv B hi' ((bunV2 h1).2 ⟨hd, names, hr, .inl ⟨by omega, by omega, .inr rfl⟩⟩)))
  · refine slice_raw he hsz hends h4 b1 b2 b3 (hK _ (bun_sv B hi' ((bunV2 h1).2 ⟨hd, names, hr, .inr ⟨g', q1, ?_, by omega, by omega⟩⟩)))
    rw [if_neg (by omega)]
    show AV.raw (.slice (some ((⟨g', a, none⟩ : Addr).add (l.toNat * sz))) _ _) = _
    rw [add_off_, h2, Nat.mul_one]
theorem pr_index {d : Option Nat} {ty : TypeId} {pos : String} {af : Array Edge} {g : Option (Nat × Bool)} {x y : Operand} {ad : Addr} {n c : Nat} {ki : IntKind} {m : Int} {K : AV → St → Prop} (he : sliceA P t = some e) (hsz : sizeA P e = some sz) (hn : 0 ≤ m ∧ m < (n : Int)) (hK : K (.raw (.pointer (some (ad.add (m.toNat * sz))))) σ) :
    aVal P ⟨d, .indexAddr t x y, ty, pos, af, g⟩ [.raw (.slice (some ad) n c), .raw (.int ki m)] σ K := by
  refine .inl ⟨.pointer (some (ad.add (m.toNat * sz))), fun ρ' hρ w _ _ => ?_, hK⟩
  simp [Op.operands] at hρ
  have hj : m = ((m.toNat : Nat) : Int) := by omega
  have hr := run_indexAt (P := P) (w := w) (ad := ad) (n := n) (c := c) (k := ki) (j := m.toNat) he hsz (by omega)
  rw [← hj] at hr
  simp only [execOp, hρ.1, hρ.2, Sem.run_bind, hr, Result.andThen_ok, Sem.run_pure]
theorem b_index0 (B : BunC C) {i cd a n K : Nat} {x y : Operand} {ki : IntKind} {m : Int} (he : sliceA P t = some e) (hsz : sizeA P e = some sz) (h1 : gk cd = 0) (h2 : sz = gz cd) (h64 : sz < 64) (hn : 0 ≤ m ∧ m < (n : Int)) (hk : k (.gv i (gc 1 sz 0) [a + m.toNat]) h = some z) : SoundA C P U (.indexAddr t x y) [.gv i cd [a, n, K], .int ki m] h k z := by
  refine ⟨_, h, hk, fun d ty pos af g => OpTr.same fun ρ σ as_ Kk hs H hK => ?_⟩
  obtain ⟨v, w, rfl, h3, h4⟩ := svs2.1 hs
  obtain ⟨hi', hv⟩ := sv_bun B h3
  obtain ⟨b, names, hr, rfl, q1, q2, q3, q4⟩ := (bunV0 h1).1 hv
  rw [sv_int.1 h4]
  refine pr_index he hsz hn (hK _ (bun_sv B hi' ((bunV1 (gk_gc (by omega) h64)).2 ⟨b, names, hr, ?_⟩)))
  rw [add_off_, gz_gc (by omega) h64, gj_gc (by omega) h64, Nat.add_zero, h2, Nat.add_mul]; rfl
theorem b_index2 (B : BunC C) {i cd q a n cp : Nat} {x y : Operand} {ki : IntKind} {m : Int} (he : sliceA P t = some e) (hsz : sizeA P e = some sz) (h1 : gk cd = 2) (h2 : sz = 1) (h64 : gz cd < 64) (hn : 0 ≤ m ∧ m < (n : Int)) (hk : k (.gv i (gc 3 (gz cd) (gj cd)) [q, a + m.toNat]) h = some z) : SoundA C P U (.indexAddr t x y) [.gv i cd [q, a, n, cp], .int ki m] h k z := by
  refine ⟨_, h, hk, fun d ty pos af g => OpTr.same fun ρ σ as_ Kk hs H hK => ?_⟩
  obtain ⟨v, w, rfl, h3, h4⟩ := svs2.1 hs
  obtain ⟨hi', hv⟩ := sv_bun B h3
  rw [sv_int.1 h4]
  obtain ⟨hd, names, hr, ⟨rfl, _⟩ | ⟨g', q1, rfl, q2, q3⟩⟩ := (bunV2 h1).1 hv
  · omega
  refine pr_index he hsz hn (hK _ (bun_sv B hi' ((bunV3 (gk_gc (by omega) h64)).2 ⟨hd, names, hr, g', ?_, ?_⟩)))
  · rw [gz_gc (by omega) h64, gj_gc (by omega) h64]; exact q1
  · rw [add_off_, h2, Nat.mul_one]; rfl
theorem b_fieldAddr (B : BunC C) {i cd q f off n : Nat} {x : Operand} {l : List (Nat × Option Nat × Option Bool)} {b : Option Bool} (hl : structA P t = some l) (hf : l[f]? = some (off, some (n + 1), b)) (h1 : gk cd = 1) (h64 : gz cd < 64) (hk : k (.gv i (gc 1 (gz cd) (gj cd + off)) [q]) h = some z) : SoundA C P U (.fieldAddr t x f) [.gv i cd [q]] h k z := by
  refine ⟨_, h, hk, fun d ty pos af g => OpTr.same fun ρ σ as_ Kk hs H hK => ?_⟩
  obtain ⟨v, rfl, h3⟩ := svs1.1 hs
  obtain ⟨hi', hv⟩ := sv_bun B h3
  obtain ⟨b', names, hr, rfl⟩ := (bunV1 h1).1 hv
  refine ⟨l, off, n, b, hl, hf, hK _ (bun_sv B hi' ((bunV1 (gk_gc (by omega) h64)).2 ⟨b', names, hr, ?_⟩))⟩
  rw [add_off_, gz_gc (by omega) h64, gj_gc (by omega) h64, Nat.add_assoc]; rfl
theorem b_nil1 (B : BunC C) {i cd q : Nat} {x : Operand} (h1 : gk cd = 1) (hk : k (.gv i cd [q]) h = some z) : SoundA C P U (.nilCheck x) [.gv i cd [q]] h k z := by
  refine ⟨_, h, hk, fun d ty pos af g => OpTr.same fun ρ σ as_ Kk hs H hK => ?_⟩
  obtain ⟨v, rfl, h3⟩ := svs1.1 hs
  obtain ⟨b', names, hr, rfl⟩ := (bunV1 h1).1 (sv_bun B h3).2
  exact ⟨rfl, hK _ h3⟩
theorem b_nil3 (B : BunC C) {i cd p q : Nat} {x : Operand} (h1 : gk cd = 3) (hk : k (.gv i cd [p, q]) h = some z) : SoundA C P U (.nilCheck x) [.gv i cd [p, q]] h k z := by
  refine ⟨_, h, hk, fun d ty pos af g => OpTr.same fun ρ σ as_ Kk hs H hK => ?_⟩
  obtain ⟨v, rfl, h3⟩ := svs1.1 hs
  obtain ⟨hd, names, hr, g', _, rfl⟩ := (bunV3 h1).1 (sv_bun B h3).2
  exact ⟨rfl, hK _ h3⟩
/-- A bundle's cells, as values. -/
theorem bndC_sv (B : BunC C) {enc : (E : Nat) → T E → List (XV T)} {i q sz j p : Nat} {v : XV T} {a hd nm : AV} {names : List AV} (hi : i < N) (hr : ρ i = .tup (hd :: names)) (h64 : sz < 64) (hp : p = q * sz + j) (hnm : names[p]? = some nm) (hc : BCell enc σ v a nm) (hv : (isSc v || isSlx v) = true) : SV C N ρ (bndC i q sz j v) a := by
  cases v with
  | slx E xs ys =>
    refine bun_sv B hi ((bunV2 (gk_gc (by omega) h64)).2 ⟨hd, names, hr, ?_⟩)
    rw [gz_gc (by omega) h64, gj_gc (by omega) h64, ← hp]
    rcases hc with ⟨rfl, rfl, h1⟩ | ⟨g, t, cs, rfl, rfl, h3, h4, h5⟩
    · exact .inl ⟨rfl, rfl, h1⟩
    · exact .inr ⟨g, hnm, rfl, by omega, by omega⟩
  | int kk n => have : some (AV.raw (.int kk n)) = some a := hc; injection this with this; exact sv_int.2 this.symm
  | bool bb => have : some (AV.raw (.bool bb)) = some a := hc; injection this with this; exact sv_bool.2 this.symm
  | str s => have : some (AV.raw (.string ⟨s.toArray⟩)) = some a := hc; injection this with this; exact sv_str.2 this.symm
  | _ => simp [isSc, isSlx, scA] at hv
theorem bndCs_sv (B : BunC C) {enc : (E : Nat) → T E → List (XV T)} {i q sz : Nat} {hd : AV} {names : List AV} (hi : i < N) (hr : ρ i = .tup (hd :: names)) (h64 : sz < 64) : ∀ (vs : List (XV T)) (j : Nat) (as_ : List AV), as_.length = vs.length → (∀ (m : Nat) v a, vs[m]? = some v → as_[m]? = some a → ∃ nm, names[q * sz + (j + m)]? = some nm ∧ BCell enc σ v a nm ∧ (isSc v || isSlx v) = true) → SVs C N ρ (bndCs i q sz j vs) as_
  | [], j, [], _, _ => .none
  | [], j, _ :: _, h, _ => by cases h
  | v :: vs, j, [], h, _ => by cases h
  | v :: vs, j, a :: as_, hl, hc => by
    obtain ⟨nm, h1, h2, h3⟩ := hc 0 v a rfl rfl
    exact .cons (bndC_sv B hi hr h64 rfl h1 h2 h3) (bndCs_sv B hi hr h64 vs (j + 1) as_ (by simpa using hl) fun m v a h1 h2 => by
      obtain ⟨nm, g1, g2⟩ := hc (m + 1) v a (by simpa using h1) (by simpa using h2)
      exact ⟨nm, by rw [show j + 1 + m = j + (m + 1) from by omega]; exact g1, g2⟩)
theorem fm_get {Ex : Nat} {xs : List (T Ex)} {q j : Nat} {x : T Ex} (hx : xs[q]? = some x) (hj : j < C.sz Ex) : (xs.flatMap (C.enc Ex))[q * C.sz Ex + j]? = (C.enc Ex x)[j]? := by
  have hq := lt_of_get hx
  rw [← List.getElem?_drop, enc_drop, List.drop_eq_getElem_cons hq, List.flatMap_cons, List.getElem?_append_left (by rw [C.len]; exact hj)]
  rw [List.getElem?_eq_getElem hq] at hx
  injection hx with hx
  rw [hx]
theorem b_load1 (B : BunC C) {i cd q E : Nat} {x0 : T E} {b : BN T E} {ox : Operand} {x : T b.Ex} (hi : h[i]? = some (.gen E x0)) (hb : B.bn E = some b) (h1 : gk cd = 1) (h2 : gz cd = C.sz b.Ex) (h3 : gj cd ≤ C.sz b.Ex) (h64 : gz cd < 64) (hx : (cast b.eq x0)[q]? = some x)
    (hk : (xcellsAt (aggA P t) (sizeA P t) ((bndCs i q (gz cd) 0 (C.enc b.Ex x)).drop (gj cd)) 0 fun v => k v h) = some z) : SoundA C P U (.load t ox) [.gv i cd [q]] h k z := by
  obtain ⟨r, k1, k2⟩ := xcellsAt_sound hk
  refine ⟨_, _, k1, fun d ty pos af g ρ σ as_ hs H => ?_⟩
  obtain ⟨a, rfl, s1⟩ := svs1.1 hs
  obtain ⟨hiN, hv⟩ := sv_bun B s1
  obtain ⟨b', names', hr', rfl⟩ := (bunV1 h1).1 hv
  obtain ⟨b0, cells, names, hr, hB⟩ := (B.gsh E b hb _ _ _).1 (H.it i _ hi)
  rw [hr'] at hr
  injection hr with hr
  injection hr with e1 e2
  have := ptr_blk e1
  subst this e2
  have hq := lt_of_get hx
  have hcl : cells.length = (cast b.eq x0).length * C.sz b.Ex := by rw [hB.clen, enc_len]
  have hm : (q + 1) * C.sz b.Ex ≤ (cast b.eq x0).length * C.sz b.Ex := Nat.mul_le_mul_right _ hq
  rw [Nat.succ_mul] at hm
  have hseg : SVs C h.length ρ (bndCs i q (gz cd) 0 (C.enc b.Ex x)) ((cells.drop (q * C.sz b.Ex)).take (C.sz b.Ex)) := by
    refine bndCs_sv B (enc := C.enc) (σ := σ) hiN hr' h64 _ 0 _ (by rw [List.length_take, List.length_drop, C.len]; omega) fun m v a hv ha => ?_
    have hm2 : m < C.sz b.Ex := by have := lt_of_get hv; rw [C.len] at this; exact this
    rw [List.getElem?_take_of_lt hm2, List.getElem?_drop] at ha
    have hnl : q * C.sz b.Ex + m < names'.length := by rw [hB.nlen]; omega
    refine ⟨names'[q * C.sz b.Ex + m], by rw [Nat.zero_add, h2, List.getElem?_eq_getElem hnl], hB.cell _ v a _ (by rw [fm_get hx hm2]; exact hv) ha (List.getElem?_eq_getElem hnl), B.flat E b hb x v (List.mem_of_getElem? hv)⟩
  obtain ⟨a, k3, k4⟩ := k2 h.length ρ _ (cells.drop (q * C.sz b.Ex + C.sz b.Ex)) (hseg.drop (gj cd))
  refine ⟨a, ?_, ρ, k4, H, .refl _ _ _ _⟩
  unfold aLoad ptr
  dsimp only
  rw [hB.blk]
  dsimp only
  refine cellsAt_drop (by rw [hcl, h2]; omega) ?_
  rw [h2, ← List.drop_drop]
  have : (cells.drop (q * C.sz b.Ex)).drop (gj cd) = ((cells.drop (q * C.sz b.Ex)).take (C.sz b.Ex)).drop (gj cd) ++ cells.drop (q * C.sz b.Ex + C.sz b.Ex) := by
    conv => lhs; rw [← List.take_append_drop (C.sz b.Ex) (cells.drop (q * C.sz b.Ex))]
    rw [List.drop_append_of_le_length (by rw [List.length_take, List.length_drop]; omega), List.drop_drop]
  rw [this]
  exact k3
theorem sc_sv {v : XV T} {a : AV} (h : scA v = some a) : SV C N ρ v a := by
  cases v with
  | int kk n => injection h with h; exact sv_int.2 h.symm
  | bool bb => injection h with h; exact sv_bool.2 h.symm
  | str s => injection h with h; exact sv_str.2 h.symm
  | _ => cases h
theorem scs_sv : ∀ {vs : List (XV T)} {as_ : List AV}, vs.map scA = as_.map some → SVs C N ρ vs as_
  | [], [], _ => .none
  | [], _ :: _, h => by cases h
  | _ :: _, [], h => by cases h
  | v :: vs, a :: as_, h => by
    rw [List.map_cons, List.map_cons] at h
    injection h with h1 h2
    exact .cons (sc_sv h1) (scs_sv h2)
/-- A list within an element: its block. -/
theorem inner_at (B : BunC C) {E i p cd : Nat} {x0 : T E} {b : BN T E} {x : T b.Ex} {F : Nat} {ys zs : List (T F)} {hd : AV} {names : List AV} {g : Nat} (H : Hp C ρ h σ) (hi : h[i]? = some (.gen E x0)) (hb : B.bn E = some b) (h2 : gz cd = C.sz b.Ex) (hx : (cast b.eq x0)[p]? = some x) (hj : (C.enc b.Ex x)[gj cd]? = some (.slx F ys zs)) (hr : ρ i = .tup (hd :: names)) (hn : names[p * gz cd + gj cd]? = some (ptr g 0)) :
    ∃ b0 cells, hd = ptr b0 0 ∧ BunAt C.enc (.own b.e cells) b.Ex σ (cast b.eq x0) b0 cells names ∧ (ys ++ zs = [] ∨ ∃ tt cs, σ.blk g = some (.own tt cs) ∧ ((ys ++ zs).flatMap (C.enc F)).map scA = cs.map some) := by
  obtain ⟨b0, cells, names', hr2, hB⟩ := (B.gsh E b hb _ _ _).1 (H.it i _ hi)
  rw [hr] at hr2
  injection hr2 with hr2
  injection hr2 with e1 e2
  subst e1 e2
  refine ⟨b0, cells, rfl, hB, ?_⟩
  have hj2 : gj cd < C.sz b.Ex := by have := lt_of_get hj; rw [C.len] at this; exact this
  have hq := lt_of_get hx
  have hcl : cells.length = (cast b.eq x0).length * C.sz b.Ex := by rw [hB.clen, enc_len]
  have hm : (p + 1) * C.sz b.Ex ≤ (cast b.eq x0).length * C.sz b.Ex := Nat.mul_le_mul_right _ hq
  rw [Nat.succ_mul] at hm
  rw [h2] at hn
  have hpl : p * C.sz b.Ex + gj cd < cells.length := by omega
  have := hB.cell (p * C.sz b.Ex + gj cd) _ _ _ (by rw [fm_get hx hj2]; exact hj) (List.getElem?_eq_getElem hpl) hn
  rcases this with ⟨e1, e2, _⟩ | ⟨g', tt, cs, e1, _, h3, h4, _⟩
  · exact .inl (by rw [e1, e2]; rfl)
  · have := ptr_blk e1; subst this
    exact .inr ⟨tt, cs, h3, h4⟩
theorem b_load3 (B : BunC C) {i cd p q E : Nat} {x0 : T E} {b : BN T E} {ox : Operand} {x : T b.Ex} {F : Nat} {ys zs : List (T F)} {y : T F} (hi : h[i]? = some (.gen E x0)) (hb : B.bn E = some b) (h1 : gk cd = 3) (h2 : gz cd = C.sz b.Ex) (hx : (cast b.eq x0)[p]? = some x) (hj : (C.enc b.Ex x)[gj cd]? = some (.slx F ys zs)) (hF : B.sc F = true) (hy : (ys ++ zs)[q]? = some y)
    (hk : (xcellsAt (aggA P t) (sizeA P t) (C.enc F y) 0 fun v => k v h) = some z) : SoundA C P U (.load t ox) [.gv i cd [p, q]] h k z := by
  obtain ⟨r, k1, k2⟩ := xcellsAt_sound hk
  refine ⟨_, _, k1, fun d ty pos af g ρ σ as_ hs H => ?_⟩
  obtain ⟨a, rfl, s1⟩ := svs1.1 hs
  obtain ⟨hiN, hv⟩ := sv_bun B s1
  obtain ⟨hd, names, hr, g', hn, rfl⟩ := (bunV3 h1).1 hv
  obtain ⟨b0, cells, rfl, hB, he | ⟨tt, cs, hg, hcs⟩⟩ := inner_at B H hi hb h2 hx hj hr hn
  · rw [he] at hy; simp at hy
  have hsz := (B.sc_ok F hF).1
  have hlq := lt_of_get hy
  have hsv : SVs C h.length ρ ((ys ++ zs).flatMap (C.enc F)) cs := scs_sv hcs
  have hlen := hsv.len
  rw [enc_len, hsz, Nat.mul_one] at hlen
  have hd2 := hsv.drop (q * C.sz F)
  rw [enc_drop, List.drop_eq_getElem_cons hlq, List.flatMap_cons] at hd2
  have hy' : (ys ++ zs)[q] = y := by rw [List.getElem?_eq_getElem hlq] at hy; injection hy
  rw [hy'] at hd2
  obtain ⟨u, w, e1, e2, e3⟩ := hd2.split
  obtain ⟨a, k3, k4⟩ := k2 h.length ρ u w e2
  refine ⟨a, ?_, ρ, k4, H, .refl _ _ _ _⟩
  unfold aLoad ptr
  dsimp only
  rw [hg]
  dsimp only
  rw [hsz, Nat.mul_one] at e1
  refine cellsAt_drop (by omega) ?_
  rw [e1]
  exact k3
end
end Go.Proofs.Ytlaehnldaejipaa
