/- RegistryTurns, plainly (written by plain21g.py). -/
import Derived.Test.YtaihdjknneiciaaGreatGbt
namespace Go.Proofs.YtaihdjknneiciaaGreat
open Go.RowKit
set_option maxRecDepth 100000
set_option linter.unusedVariables false
set_option linter.unusedSimpArgs false
theorem DoneX.of {s : DShares} {u : Bool} {x : DScheme} {n r e : Int} {s' : DShares} {u' : Bool} {x' : DScheme} {n' : Int} {p q : Prop} (h : DoneX s u x n r e s' u' x' n' p) (hpq : p ↔ q) : DoneX s u x n r e s' u' x' n' q :=
  ⟨h.ok, h.bad, fun hh => h.num fun ⟨a, b⟩ => hh ⟨hpq.1 a, b⟩, fun a => h.beg (hpq.2 a), h.trn⟩
theorem do_g {s : DShares} {u : Bool} {x : DScheme} {n : Int} {l : List DVerdict} {m : Nm} (h : PlanOk s u x n) (hb : Bks l m) (hl : l.length ≤ 900) {d : DDeed} (hd : OkD d) :
    ∃ k r e s' u' x' n' l' m', wk_Pick d.kind 8 = some (k, ()) ∧ DoneX s u x n r e s' u' x' n' (k < 2) ∧ Bks l' m' ∧ l'.length ≤ l.length + 1 ∧ wl_do d (plc s u x n) (l, (), ()) m = some ((r, e, ()), (plc s' u' x' n', (l', (), ()), m', (), (), ())) := by
  obtain ⟨k, hk, hk0, hk8⟩ := Pick_in d.kind 8 (by decide) (by decide)
  refine ⟨k, ?_⟩
  by_cases h0 : k = 0
  · obtain ⟨r, e, u', x', n', q1, q2⟩ := Begin_g h hd.1 d.to_
    exact ⟨r, e, s, u', x', n', l, m, hk, q1.of ⟨fun _ => by omega, fun _ => trivial⟩, hb, by omega, by unfold wl_do; exact bindS hk (condT (dT h0) (bindS (q2 l m) rfl))⟩
  by_cases h1 : k = 1
  · obtain ⟨r, e, u', x', n', q1, q2⟩ := Begin_g h hd.1 d.to_
    exact ⟨r, e, s, u', x', n', l, m, hk, q1.of ⟨fun _ => by omega, fun _ => trivial⟩, hb, by omega, by unfold wl_do; exact bindS hk (condF (dF h0) (condT (dT h1) (bindS (q2 l m) rfl)))⟩
  have no : False ↔ k < 2 := ⟨fun h => h.elim, fun h => by omega⟩
  have same : ∀ e, DoneX s u x n 0 e s u x n (k < 2) := fun e => ⟨h, fun _ => ⟨rfl, rfl, rfl, rfl, rfl⟩, fun _ => rfl, fun hh => (no.2 hh).elim, Trn.same s x⟩
  by_cases h6 : k = 6
  · obtain ⟨p1, p2, p3⟩ := hb.dec (v := d.verdict) hd.2.2 (by omega)
    have hD := Decide_v hb.ok d.verdict (by have := hd.2.1; omega) hd.2.2 (by omega)
    refine ⟨0, (decF l m d.verdict).1.2, s, u, x, n, _, _, hk, same _, p1, p2, ?_⟩
    unfold wl_do registry_Decide
    exact bindS hk (condF (dF h0) (condF (dF h1) (condT (dT h6) (bindS (bindS (v := (true, (plc s u x n, (l, (), ()), m, (), (), ()))) rfl (condF rfl (bindS hD rfl))) rfl))))
  by_cases h7 : k = 7
  · exact ⟨0, 0, s, u, x, n, l, m, hk, same 0, hb, by omega, by unfold wl_do; exact bindS hk (condF (dF h0) (condF (dF h1) (condF (dF h6) (condT (dT h7) rfl))))⟩
  · obtain ⟨r, e, s', u', x', q1, q2, q3⟩ := Step_g h d.num d.stage
    refine ⟨r, e, s', u', x', n, l, m, hk, q1.of no, hb, by omega, ?_⟩
    unfold wl_do
    refine bindS hk (condF (dF h0) (condF (dF h1) (condF (dF h6) (condF (dF h7) (bindS (q3 l m) ?_)))))
    dsimp only
    rw [q2]
/-- The law's state. -/
abbrev LS (xs : List DDeed) (keys : List Tx) (K : Int) (i : Nat) (s : DShares) (u : Bool) (x : DScheme) (n : Int) (l : List DVerdict) (m : Nm) (sc : DShares) (uc : Bool) (xc : DScheme) (nc : Int) (lc : List DVerdict) (mc : Nm) :=
  (((xs, keys, (), K, (), (i : Int), ()), (plc s u x n, ((l, (), ()) : (List DVerdict) × Unit × Unit), m, plc sc uc xc nc, ((lc, (), ()) : (List DVerdict) × Unit × Unit), mc, (), (), ())) : ((List DDeed) × (List Tx) × Unit × Int × Unit × Int × Unit) × _)
structure Inv (K : Int) (i : Nat) (s : DShares) (u : Bool) (x : DScheme) (n : Int) (l : List DVerdict) (m : Nm) (sc : DShares) (uc : Bool) (xc : DScheme) (nc : Int) (lc : List DVerdict) (mc : Nm) : Prop where
  pl : PlanOk s u x n
  bk : Bks l m
  len : l.length ≤ i
  pc : PlanOk sc uc xc nc
  bc : Bks lc mc
  lenc : lc.length ≤ i
  eq_ : K < i → s = sc ∧ u = uc ∧ x = xc ∧ n = nc ∧ l = lc ∧ m = mc
theorem step_g {xs : List DDeed} {keys : List Tx} {K : Int} {i : Nat} {s : DShares} {u : Bool} {x : DScheme} {n : Int} {l : List DVerdict} {m : Nm} {sc : DShares} {uc : Bool} {xc : DScheme} {nc : Int} {lc : List DVerdict} {mc : Nm}
    (hi : i < xs.length) (hl : xs.length ≤ 60) (hx : ∀ d ∈ xs, OkD d) (hkeys : ∀ k ∈ keys, OkT k) (hkl : keys.length ≤ 1000) (h : Inv K i s u x n l m sc uc xc nc lc mc) :
    ∃ s' u' x' n' l' m' sc' uc' xc' nc' lc' mc', Inv K (i + 1) s' u' x' n' l' m' sc' uc' xc' nc' lc' mc' ∧ wl_RegistryTurns_l1 (LS xs keys K i s u x n l m sc uc xc nc lc mc) = some (.inl (LS xs keys K (i + 1) s' u' x' n' l' m' sc' uc' xc' nc' lc' mc')) := by
  obtain ⟨hp, hbk, hlen, hpc, hbc, hlc, heq⟩ := h
  have hn0 := hp.pl.lo
  have hn1 := hp.pl.hi
  obtain ⟨k, r, e, s', u', x', n', l', m', hk, hd, hb', hl', hdo⟩ := do_g hp hbk (by omega) (hx _ (List.getElem_mem hi))
  have hT := turned_g hp.pl.sh hp.pl.rt hd.ok.pl.sh hd.ok.pl.rt hd.trn hkeys hkl
  by_cases hK : (i : Int) = K
  · refine ⟨s', u', x', n', l', m', s', u', x', n', l', m', ⟨hd.ok, hb', by omega, hd.ok, hb', by omega, fun _ => ⟨rfl, rfl, rfl, rfl, rfl, rfl⟩⟩, ?_⟩
    have hbl := regB_len hp hbk (by omega)
    obtain ⟨st, hdn⟩ := Done_p (sp := false) (b := planB s u x ++ catN [n] ++ (catN [(l.length : Int)] ++ bodyV l)) (by omega)
    have hnr : wire_NewReader (planB s u x ++ catN [n] ++ (catN [(l.length : Int)] ++ bodyV l)) = some ((), ((true, false, planB s u x ++ catN [n] ++ (catN [(l.length : Int)] ++ bodyV l), ()), (), ())) := bindS (v := (planB s u x ++ catN [n] ++ (catN [(l.length : Int)] ++ bodyV l), ((), ()))) (by unfold clone81; exact iteT (by omega) rfl) rfl
    have hl100 : l.length ≤ 100 := by omega
    have hwr := regwrite_g hp hbk hl100
    have hrd := regread_g hp hbk hl100
    unfold wl_RegistryTurns_l1
    refine condT (dT (by (try dsimp only); omega)) (condT (dT hK) (bindS (v := ((), ((true, false, [], ()), (), ()))) rfl (bindS hwr (bindS hdn (bindS hnr (bindS hrd (condF rfl (condF rfl ?_))))))))
    refine bindS (Shares_g hp.pl.sh) (bindS Last_g (bindS Scheme_g (bindS (getI_lt hi) (bindS hdo (condT (dT (by (try dsimp only); omega)) (bindS (getI_lt hi) (bindS hdo (condF (dF (fun hh => hh rfl)) (condF (dF (fun hh => hh rfl)) ?_)))))))))
    refine bindS Scheme_g (bindS (whole_g hd.ok) (condF rfl ?_))
    by_cases he : e = 0
    · refine condF (dF (fun hh => hh he)) (bindS (getI_lt hi) (bindS hk ?_))
      by_cases h2 : k < 2
      · obtain ⟨b1, b2, b3⟩ := hd.beg h2 he
        refine condT (dT h2) (condT (dT he) (condF (dF (fun hh => hh (b1.trans (w64 (n := n + 1) (by omega)).symm))) (condF b2 (bindS Last_g (condF (dF (fun hh => hh b3)) (condF (by rw [dT he]; rfl) (bindS (Shares_g hd.ok.pl.sh) (bindS hT (condF rfl ?_)))))))))
        dsimp only
        rw [w64 (n := (i : Int) + 1) (by omega)]
        rfl
      · refine condF (dF h2) (bindS Last_g (condF (dF (fun hh => hh (hd.num (fun q => h2 q.1)))) (bindS (Shares_g hd.ok.pl.sh) (bindS hT (condF rfl ?_)))))
        dsimp only
        rw [w64 (n := (i : Int) + 1) (by omega)]
        rfl
    · obtain ⟨c1, c2, c3, c4, c5⟩ := hd.bad he
      subst c2 c3 c4 c5
      refine condT (dT he) (condF (dF (fun hh => hh c1)) (bindS Last_g (condF (dF (fun hh => hh rfl)) (condF (dF (fun hh => hh rfl)) (condF (by simp) (bindS (Shares_g hd.ok.pl.sh) (bindS (same_g hd.ok.pl.sh) (condF rfl (bindS (getI_lt hi) (bindS hk ?_))))))))))
      by_cases h2 : k < 2
      · refine condT (dT h2) (condF (dF he) (condT (by rw [dF he]; rfl) (bindS Last_g (condF (dF (fun hh => hh rfl)) (bindS (Shares_g hd.ok.pl.sh) (bindS hT (condF rfl ?_)))))))
        dsimp only
        rw [w64 (n := (i : Int) + 1) (by omega)]
        rfl
      · refine condF (dF h2) (bindS Last_g (condF (dF (fun hh => hh rfl)) (bindS (Shares_g hd.ok.pl.sh) (bindS hT (condF rfl ?_)))))
        dsimp only
        rw [w64 (n := (i : Int) + 1) (by omega)]
        rfl
  by_cases hK2 : K ≤ (i : Int)
  · obtain ⟨rfl, rfl, rfl, rfl, rfl, rfl⟩ := heq (by omega)
    refine ⟨s', u', x', n', l', m', s', u', x', n', l', m', ⟨hd.ok, hb', by omega, hd.ok, hb', by omega, fun _ => ⟨rfl, rfl, rfl, rfl, rfl, rfl⟩⟩, ?_⟩
    unfold wl_RegistryTurns_l1
    refine condT (dT (by (try dsimp only); omega)) (condF (dF hK) ?_)
    refine bindS (Shares_g hp.pl.sh) (bindS Last_g (bindS Scheme_g (bindS (getI_lt hi) (bindS hdo (condT (dT (by (try dsimp only); omega)) (bindS (getI_lt hi) (bindS hdo (condF (dF (fun hh => hh rfl)) (condF (dF (fun hh => hh rfl)) ?_)))))))))
    refine bindS Scheme_g (bindS (whole_g hd.ok) (condF rfl ?_))
    by_cases he : e = 0
    · refine condF (dF (fun hh => hh he)) (bindS (getI_lt hi) (bindS hk ?_))
      by_cases h2 : k < 2
      · obtain ⟨b1, b2, b3⟩ := hd.beg h2 he
        refine condT (dT h2) (condT (dT he) (condF (dF (fun hh => hh (b1.trans (w64 (n := n + 1) (by omega)).symm))) (condF b2 (bindS Last_g (condF (dF (fun hh => hh b3)) (condF (by rw [dT he]; rfl) (bindS (Shares_g hd.ok.pl.sh) (bindS hT (condF rfl ?_)))))))))
        dsimp only
        rw [w64 (n := (i : Int) + 1) (by omega)]
        rfl
      · refine condF (dF h2) (bindS Last_g (condF (dF (fun hh => hh (hd.num (fun q => h2 q.1)))) (bindS (Shares_g hd.ok.pl.sh) (bindS hT (condF rfl ?_)))))
        dsimp only
        rw [w64 (n := (i : Int) + 1) (by omega)]
        rfl
    · obtain ⟨c1, c2, c3, c4, c5⟩ := hd.bad he
      subst c2 c3 c4 c5
      refine condT (dT he) (condF (dF (fun hh => hh c1)) (bindS Last_g (condF (dF (fun hh => hh rfl)) (condF (dF (fun hh => hh rfl)) (condF (by simp) (bindS (Shares_g hd.ok.pl.sh) (bindS (same_g hd.ok.pl.sh) (condF rfl (bindS (getI_lt hi) (bindS hk ?_))))))))))
      by_cases h2 : k < 2
      · refine condT (dT h2) (condF (dF he) (condT (by rw [dF he]; rfl) (bindS Last_g (condF (dF (fun hh => hh rfl)) (bindS (Shares_g hd.ok.pl.sh) (bindS hT (condF rfl ?_)))))))
        dsimp only
        rw [w64 (n := (i : Int) + 1) (by omega)]
        rfl
      · refine condF (dF h2) (bindS Last_g (condF (dF (fun hh => hh rfl)) (bindS (Shares_g hd.ok.pl.sh) (bindS hT (condF rfl ?_)))))
        dsimp only
        rw [w64 (n := (i : Int) + 1) (by omega)]
        rfl
  · refine ⟨s', u', x', n', l', m', sc, uc, xc, nc, lc, mc, ⟨hd.ok, hb', by omega, hpc, hbc, by omega, fun hh => by omega⟩, ?_⟩
    unfold wl_RegistryTurns_l1
    refine condT (dT (by (try dsimp only); omega)) (condF (dF hK) ?_)
    refine bindS (Shares_g hp.pl.sh) (bindS Last_g (bindS Scheme_g (bindS (getI_lt hi) (bindS hdo (condF (dF (by (try dsimp only); omega)) ?_)))))
    refine bindS Scheme_g (bindS (whole_g hd.ok) (condF rfl ?_))
    by_cases he : e = 0
    · refine condF (dF (fun hh => hh he)) (bindS (getI_lt hi) (bindS hk ?_))
      by_cases h2 : k < 2
      · obtain ⟨b1, b2, b3⟩ := hd.beg h2 he
        refine condT (dT h2) (condT (dT he) (condF (dF (fun hh => hh (b1.trans (w64 (n := n + 1) (by omega)).symm))) (condF b2 (bindS Last_g (condF (dF (fun hh => hh b3)) (condF (by rw [dT he]; rfl) (bindS (Shares_g hd.ok.pl.sh) (bindS hT (condF rfl ?_)))))))))
        dsimp only
        rw [w64 (n := (i : Int) + 1) (by omega)]
        rfl
      · refine condF (dF h2) (bindS Last_g (condF (dF (fun hh => hh (hd.num (fun q => h2 q.1)))) (bindS (Shares_g hd.ok.pl.sh) (bindS hT (condF rfl ?_)))))
        dsimp only
        rw [w64 (n := (i : Int) + 1) (by omega)]
        rfl
    · obtain ⟨c1, c2, c3, c4, c5⟩ := hd.bad he
      subst c2 c3 c4 c5
      refine condT (dT he) (condF (dF (fun hh => hh c1)) (bindS Last_g (condF (dF (fun hh => hh rfl)) (condF (dF (fun hh => hh rfl)) (condF (by simp) (bindS (Shares_g hd.ok.pl.sh) (bindS (same_g hd.ok.pl.sh) (condF rfl (bindS (getI_lt hi) (bindS hk ?_))))))))))
      by_cases h2 : k < 2
      · refine condT (dT h2) (condF (dF he) (condT (by rw [dF he]; rfl) (bindS Last_g (condF (dF (fun hh => hh rfl)) (bindS (Shares_g hd.ok.pl.sh) (bindS hT (condF rfl ?_)))))))
        dsimp only
        rw [w64 (n := (i : Int) + 1) (by omega)]
        rfl
      · refine condF (dF h2) (bindS Last_g (condF (dF (fun hh => hh rfl)) (bindS (Shares_g hd.ok.pl.sh) (bindS hT (condF rfl ?_)))))
        dsimp only
        rw [w64 (n := (i : Int) + 1) (by omega)]
        rfl
theorem RegistryTurns_p (x0 : Int) (x1 : List DDeed) (x2 : List (List UInt8)) (x3 : Int) (k0 : ok_Ii64 x0) (k1 : ok_LDDeed x1) (k2 : ok_LListUInt8 x2) (k3 : ok_Ii64 x3) : wl_RegistryTurns x0 x1 x2 x3 = some (true, ()) := by
  obtain ⟨b, b1, b2⟩ := light_p k1.len (fun d hd => ⟨.of (k1.all d hd).2.1, fun r hr => (((k1.all d hd).2.2.2.2.2.1.2.2.2.1).all r hr).1⟩)
  unfold wl_RegistryTurns
  refine bindS rawake_p (condF rfl (bindS b1 ?_))
  cases b with
  | false => exact condT rfl rfl
  | true =>
  obtain ⟨h60, hD⟩ := b2 rfl
  refine condF rfl ?_
  by_cases h100 : (100 : Int) < x2.length
  · exact condT (dT h100) rfl
  refine condF (dF h100) ?_
  obtain ⟨s0, f1, f2, f3⟩ := FirstG_p x0
  have hn := New_p f2 f3
  have hP : PlanOk s0 false noSc 0 := ⟨⟨f2, f3, ⟨Nat.zero_le _, Nat.zero_le _⟩, by simp [noSc, rightB], by omega, by omega⟩, fun h => (by cases h), fun _ => rfl⟩
  obtain ⟨K, hK, hK0, hK1⟩ := Pick_in x3 ((x1.length : Int) + 1) (by omega) (by omega)
  have hcb : ruling_Copy ([], (), ()) [] = some ((), (([], (), ()), [], (), ([], (), ()), [], (), (), ())) := by
    have hc : loopM ruling_Copy_l1 (((), [], 0, 0, ()), (([], (), ()), [], (), ())) = some (((), ()), (([], (), ()), [], (), (), ())) := by
      refine loopM_end ?_
      unfold ruling_Copy_l1
      exact condF rfl rfl
    unfold ruling_Copy
    exact bindS (v := (true, (([], (), ()), [], (), (), ()))) rfl (condF rfl (bindS (v := ((), (([], (), ()), [], (), ()))) rfl (bindS hc rfl)))
  have hcopy : registry_Copy (plc s0 false noSc 0) ([], (), ()) [] = some ((), (plc s0 false noSc 0, ([], (), ()), [], (), plc s0 false noSc 0, ([], (), ()), [], (), (), ())) := by
    unfold registry_Copy registry_copied
    exact bindS (v := (true, (plc s0 false noSc 0, ([], (), ()), [], (), (), ()))) rfl (condF rfl (bindS hcb (bindS (bindS (clone100_p f2.len) rfl) rfl)))
  have key : ∃ b, loopM wl_RegistryTurns_l1 (LS x1 x2 K 0 s0 false noSc 0 [] [] s0 false noSc 0 [] []) = some b ∧ ∃ (s : DShares) (u : Bool) (x : DScheme) (n : Int) (l : List DVerdict) (m : Nm) (sc : DShares) (uc : Bool) (xc : DScheme) (nc : Int) (lc : List DVerdict) (mc : Nm), Inv K x1.length s u x n l m sc uc xc nc lc mc ∧ b = .inr ((x1, (), K, (), ()), (plc s u x n, (l, (), ()), m, (), (), (), (), (), plc sc uc xc nc, (lc, (), ()), mc, (), (), ())) := by
    refine loopM_spec (fun r a => ∃ (i : Nat) (s : DShares) (u : Bool) (x : DScheme) (n : Int) (l : List DVerdict) (m : Nm) (sc : DShares) (uc : Bool) (xc : DScheme) (nc : Int) (lc : List DVerdict) (mc : Nm), a = LS x1 x2 K i s u x n l m sc uc xc nc lc mc ∧ i ≤ x1.length ∧ Inv K i s u x n l m sc uc xc nc lc mc ∧ r = x1.length - i) _ ?_ (n := x1.length) ⟨0, s0, false, noSc, 0, [], [], s0, false, noSc, 0, [], [], rfl, Nat.zero_le _, ⟨hP, .nil, Nat.le_refl _, hP, .nil, Nat.le_refl _, fun hh => ⟨rfl, rfl, rfl, rfl, rfl, rfl⟩⟩, rfl⟩
    rintro r a ⟨i, s, u, x, n, l, m, sc, uc, xc, nc, lc, mc, rfl, g1, g2, rfl⟩
    by_cases hi : i < x1.length
    · left
      obtain ⟨s', u', x', n', l', m', sc', uc', xc', nc', lc', mc', q1, q2⟩ := step_g hi h60 hD (fun k hk => k2.all k hk) (by omega) g2
      exact ⟨x1.length - (i + 1), _, by omega, q2, i + 1, s', u', x', n', l', m', sc', uc', xc', nc', lc', mc', rfl, by omega, q1, rfl⟩
    · right
      obtain rfl : i = x1.length := by omega
      unfold wl_RegistryTurns_l1
      exact ⟨_, condF (dF (by (try dsimp only); omega)) rfl, s, u, x, n, l, m, sc, uc, xc, nc, lc, mc, g2, rfl⟩
  obtain ⟨b, hb, s, u, x, n, l, m, sc, uc, xc, nc, lc, mc, hI, rfl⟩ := key
  have hbl := regB_len hI.pl hI.bk (by have := hI.len; omega)
  have hcl := regB_len hI.pc hI.bc (by have := hI.lenc; omega)
  obtain ⟨st1, hd1⟩ := Done_p (sp := false) (b := planB s u x ++ catN [n] ++ (catN [(l.length : Int)] ++ bodyV l)) (by omega)
  obtain ⟨st2, hd2⟩ := Done_p (sp := false) (b := planB sc uc xc ++ catN [nc] ++ (catN [(lc.length : Int)] ++ bodyV lc)) (by omega)
  have hw : IntKind.i64.wrap ((x1.length : Int) + 1) = (x1.length : Int) + 1 := w64 (by omega)
  refine bindS f1 (bindS hn (bindS (by rw [hw]; exact hK) (bindS hcopy (bindS hb ?_))))
  dsimp only
  refine bindS (v := ((), ((true, false, [], ()), (), ()))) rfl (bindS (regwrite_g hI.pl hI.bk (by have := hI.len; omega)) (bindS hd1 (bindS (v := ((), ((true, false, [], ()), (), ()))) rfl (bindS (regwrite_g hI.pc hI.bc (by have := hI.lenc; omega)) (bindS hd2 (condT rfl (condT rfl ?_)))))))
  dsimp only
  rw [w64 (n := (x1.length : Int) - 1) (by omega)]
  by_cases hk : (x1.length : Int) - 1 < K
  · exact condT (dT hk) rfl
  · refine condF (dF hk) ?_
    have hbb := bytes_p (l := planB s u x ++ catN [n] ++ (catN [(l.length : Int)] ++ bodyV l)) (by omega)
    obtain ⟨rfl, rfl, rfl, rfl, rfl, rfl⟩ := hI.eq_ (by omega)
    exact bindS hbb rfl
end Go.Proofs.YtaihdjknneiciaaGreat
