/- More for walks by hand: maps and pointers compared, parts of lists of ours, function values, clear. -/
import Derived.Test.YtinpiaibhjmfaaaDm
import Derived.LaidEql
namespace Go.Proofs.Ytinpiaibhjmfaaa
open Go.RowKit
set_option linter.unusedSimpArgs false
set_option maxRecDepth 100000
set_option linter.unusedVariables false
section
variable {P : Program} {ops : Array Oper} {env : Env} {σ τ : St} {K : Env -> St -> Prop} {d : Option Nat} {ty ty' t kt et : TypeId} {pos : String} {af : Array Edge} {x y z : Operand} {b n : Nat}
theorem Zq3 (ht : P.underlying t = some (.map kt et)) (hx : ev env x = Zbv b) (hy : ev env y = .raw (.map none)) (h : K (env.put d (.raw (.bool true))) σ) : aOp P ops ⟨d, .binOp .neq t x y ty', ty, pos, af, none⟩ env σ K :=
 Zhu hx hy (fun w _ _ => by simp [Zbv, eqGuard_at_map, run_neq_map_nil w t _ _ _ ht]) h
theorem Zla {p q : Nat} {m : Nat} {cp cq : Array Value} {tp tq : TypeId} (ht : P.underlying t = some (.pointer (P.pointee t))) (hs : Zax P (P.pointee t) = some (m + 1)) (w : World) (hp : w.heap[p]? = some (.cells cp tp (0, 0))) (hq : w.heap[q]? = some (.cells cq tq (0, 0))) : (Op.equal t (.pointer (some ⟨p, 0, none⟩)) (.pointer (some ⟨q, 0, none⟩))).run P w = .ok (decide (p = q)) w := by
 have hsame : (sameAddr ⟨p, 0, none⟩ ⟨q, 0, none⟩).run P w = .ok (decide (p = q)) w := by
  by_cases hpq : p = q
  ·subst hpq
   rw [decide_eq_true rfl]
   exact run_sameAddr_same _ _
  ·rw [decide_eq_false hpq]
   exact run_sameAddr_other _ (fun h => hpq (by injection h)) hp hq
 show (Op.equalIn (9999 + 1) t (.pointer (some ⟨p, 0, none⟩)) (.pointer (some ⟨q, 0, none⟩))).run P w = _
 unfold Op.equalIn
 simp [run_underlying ht, Zbp hs, hsame]
theorem ZpD {p q m : Nat} {tp tq : TypeId} {cp cq : List AV} {l : List Oper} (ht : P.underlying t = some (.pointer (P.pointee t))) (hs : Zax P (P.pointee t) = some (m + 1)) (hx : ev env x = ptr p 0) (hy : ev env y = ptr q 0) (hp : σ.blk p = some (.own tp cp)) (hq : σ.blk q = some (.own tq cq)) (h : Zb8 P ops l (env.put d (.raw (.bool (decide (p = q))))) σ K) : Zb8 P ops (⟨d, .binOp .eql t x y ty', ty, pos, af, none⟩ :: l) env σ K := by
 refine .inr (.inr (.inr ⟨rfl, fun ρ hρ w Z hH hV => ⟨.raw (.bool (decide (p = q))), σ, w, .inl ?_, h, hH, Zak _, .refl _ _⟩⟩))
 obtain ⟨_, hp2, _⟩ := hH.own _ _ _ hp
 obtain ⟨_, hq2, _⟩ := hH.own _ _ _ hq
 have hρ' := hρ
 simp [Op.operands, hx, hy, ptr] at hρ'
 simp only [execOp, hρ'.1, hρ'.2]
 simp [eqGuard_at_pointer, binOp, Zla ht hs w hp2 hq2]
theorem ZhH {A : Option Addr} {n c l u sz : Nat} {e : TypeId} {lo hi : Option Operand} {ix : List AV} (hx : ev env x = .raw (.slice A n c)) (hix : (lo.toList ++ hi.toList).map (ev env) = ix) (ht : Zaw P t = some e) (hs : Zax P e = some sz) (he : ZbA n c lo.isSome hi.isSome false ix l u c) (hlu : l <= u) (huc : u <= c)
 (h : K (env.put d (.raw (.slice (if c = l then A else A.map (·.add (l * sz))) (u - l) (c - l)))) σ) : aOp P ops ⟨d, .slice t x lo hi none, ty, pos, af, none⟩ env σ K := by
 have hvs : (Op.slice t x lo hi none).operands.toList.map (ev env) = .raw (.slice A n c) :: ix := by
  rw [<- hix, <- hx]
  cases lo <;> cases hi <;> simp [Op.operands]
 refine Zgi (vs := .raw (.slice A n c) :: ix) rfl hvs (fun σ K h => h) (fun ρ hρ w B _ => ?_) h
 have h0 : ρ x = .slice A n c /\ (lo.toArray ++ hi.toArray ++ (none : Option Operand).toArray).toList.map ρ = ix.map AV.val := by
  cases lo <;> cases hi <;> simp [Op.operands] at hρ ⊢ <;> exact hρ
 have hr := Zew (P := P) (w := w) (A := A) (mx := none) ht hs h0.2 he hlu huc (Nat.le_refl _)
 simp only [execOp, h0.1]
 rw [Sem.run_bind, hr]
 rfl
theorem ZgE {f : FuncId} {caps : Array Operand} {vs : List AV} (hv : caps.toList.map (ev env) = vs) (h : K (env.put d (.raw (.func (.func f) #[] (vs.map AV.val).toArray))) σ) : aOp P ops ⟨d, .makeFunc (.func f) #[] caps, ty, pos, af, none⟩ env σ K := by
 refine Zgi (vs := vs) rfl (by simpa [Op.operands] using hv) (fun σ K h => .inl h) (fun ρ hρ w B _ => ?_) h
 have hc : caps.map ρ = (vs.map AV.val).toArray := by
  apply Array.ext'
  simp [Op.operands] at hρ
  simpa using hρ
 simp [execOp, Instr.makeFunc, hc]
theorem ZpE {g : FuncId} {f : Operand} {caps : Array Value} {as_ : Array Operand} {ts : Array TypeId} {vs : List AV} (hf : ev env f = .raw (.func (.func g) #[] caps)) (hv : as_.toList.map (ev env) = vs) (h : Zau P g (vs ++ caps.toList.map .raw) σ fun r σ' => K (env.put d r) σ') : aOp P ops ⟨d, .call ⟨.value f, as_, ts⟩, ty, pos, af, none⟩ env σ K := by
 rw [ZaH rfl]
 have : (Op.call ⟨.value f, as_, ts⟩).operands.toList.map (ev env) = .raw (.func (.func g) #[] caps) :: vs := by rw [<- hv, <- hf]; simp [Op.operands, Call.operands]
 show ZcE P _ ((Op.call ⟨.value f, as_, ts⟩).operands.toList.map (ev env)) σ _
 rw [this]
 exact ⟨g, #[], caps, rfl, h⟩
theorem ZsH {g : FuncId} {f : Operand} {fst caps : Array Value} {as_ : Array Operand} {ts : Array TypeId} {vs : List AV} (hf : ev env f = .raw (.func (.func g) fst caps)) (hv : as_.toList.map (ev env) = vs) (h : Zau P g (fst.toList.map .raw ++ vs ++ caps.toList.map .raw) σ fun r σ' => K (env.put d r) σ') : aOp P ops ⟨d, .call ⟨.value f, as_, ts⟩, ty, pos, af, none⟩ env σ K := by
 rw [ZaH rfl]
 have : (Op.call ⟨.value f, as_, ts⟩).operands.toList.map (ev env) = .raw (.func (.func g) fst caps) :: vs := by rw [<- hv, <- hf]; simp [Op.operands, Call.operands]
 show ZcE P _ ((Op.call ⟨.value f, as_, ts⟩).operands.toList.map (ev env)) σ _
 rw [this]
 exact ⟨g, fst, caps, rfl, h⟩
theorem ZpF {f : FuncId} {fst caps : Array Operand} {us vs : List AV} (hu : fst.toList.map (ev env) = us) (hv : caps.toList.map (ev env) = vs) (h : K (env.put d (.raw (.func (.func f) (us.map AV.val).toArray (vs.map AV.val).toArray))) σ) : aOp P ops ⟨d, .makeFunc (.func f) fst caps, ty, pos, af, none⟩ env σ K := by
 refine Zgi (vs := us ++ vs) rfl (by simp [Op.operands, hu, hv]) (fun σ K h => .inl h) (fun ρ hρ w B _ => ?_) h
 simp [Op.operands] at hρ
 have hl : fst.toList.map ρ = us.map AV.val /\ caps.toList.map ρ = vs.map AV.val := by
  have hlen : (fst.toList.map ρ).length = (us.map AV.val).length := by rw [List.length_map, List.length_map, <- hu, List.length_map]
  exact List.append_inj (by simpa using hρ) hlen
 have hf : fst.map ρ = (us.map AV.val).toArray := by
  apply Array.ext'
  simpa using hl.1
 have hc : caps.map ρ = (vs.map AV.val).toArray := by
  apply Array.ext'
  simpa using hl.2
 simp [execOp, Instr.makeFunc, hf, hc]
theorem Zq4 {a c : List UInt8} (ht : P.underlying t = some .string) (hx : ev env x = .raw (.string ⟨a.toArray⟩)) (hy : ev env y = .raw (.string ⟨c.toArray⟩)) (h : K (env.put d (.raw (.bool (decide (a = c))))) σ) : aOp P ops ⟨d, .binOp .eql t x y ty', ty, pos, af, none⟩ env σ K :=
 Zhu hx hy (fun w _ _ => by
  rw [AV.val_raw, AV.val_raw, eqGuard_at_string, pure_bind]
  simp only [binOp_string_eql, Zgq, ZmL]
  rfl) h
theorem Zq5 {e sz n c lo b : Nat} {cells : List AV} {zv : Value} (hx : ev env x = .raw (.slice (if c = lo then some ⟨b, 0, none⟩ else some ⟨b, lo * sz, none⟩) (n - lo) (c - lo))) (ht : Zaw P t = some e) (hz : ZaN P e = some zv) (hzs : zv.cells.size = sz) (hsz : 0 < sz) (hz1 : ∀ i, i < sz -> (AV.ofV (zv.cells[i]!)).one = true)
 (hown : Hd σ e sz (hdr b n c) n cells) (hc : 0 < c) (hlo : lo <= n) (h : ∀ τ, Hd τ e sz (hdr b lo c) lo (cells.take (lo * sz)) -> But (fun g => g = b) σ τ -> K (env.put d (.raw (.tuple #[]))) τ) : aOp P ops ⟨d, .call ⟨.builtin .clear, #[x], #[t]⟩, ty, pos, af, none⟩ env σ K := by
 obtain ⟨c', all, q0, g1, g2, g3, g4, g5, g6⟩ := hown.at_ (Zd9 hc)
 unfold hdr at q0
 injection q0 with q0
 injection q0 with _ _ q0
 subst q0
 rw [ZaH rfl]
 have hvs : ((.call ⟨.builtin .clear, #[x], #[t]⟩ : Op).operands.toList.map (ev env)) = [.raw (.slice (if c = lo then some ⟨b, 0, none⟩ else some ⟨b, lo * sz, none⟩) (n - lo) (c - lo))] := by simp [Op.operands, Call.operands, hx]
 show ZcE P _ (Op.operands _ |>.toList.map (ev env)) σ _
 rw [hvs]
 refine .inr ⟨rfl, fun ρv hρ w Z hH hV => ?_⟩
 have hρ' := hρ
 simp [Op.operands, Call.operands] at hρ'
 have hv := ZbX zv (n - lo) (by omega)
 rw [hzs] at hv
 have hm1 : n * sz <= c * sz := Nat.mul_le_mul_right _ g5
 have hm2 : lo * sz <= n * sz := Nat.mul_le_mul_right _ hlo
 have hlen : ((List.replicate (n - lo) ((List.range sz).map fun i => AV.ofV (zv.cells[i % sz]!))).flatten).length = (n - lo) * sz := by rw [Ze2, List.length_map, List.length_range]
 obtain ⟨ad, had⟩ : ∃ ad : Addr, (if c = lo then some (⟨b, 0, none⟩ : Addr) else some ⟨b, lo * sz, none⟩) = some ad := by
  split <;> exact ⟨_, rfl⟩
 have had2 : 0 < n - lo -> ad = ⟨b, lo * sz, none⟩ := fun h0 => by
  rw [if_neg (by omega)] at had
  injection had with had
  exact had.symm
 obtain ⟨w', r1, r2, r3⟩ := clear_ (P := P) (t := t) (ty := ty) (lo := lo) (n := n - lo) (c := c - lo) (ad := ad) hH ht hz hzs hsz g1 (by rw [show lo + (n - lo) = n by omega]; omega) had2 hv (fun a ha => by
  obtain ⟨q, hq, hal⟩ := List.mem_flatten.1 ha
  have hq := (List.mem_replicate.1 hq).2
  subst hq
  obtain ⟨j, hj, rfl⟩ := List.mem_map.1 hal
  rw [Nat.mod_eq_of_lt (List.mem_range.1 hj)]
  exact hz1 j (List.mem_range.1 hj)) (fun a ha => by
  obtain ⟨q, hq, hal⟩ := List.mem_flatten.1 ha
  have hq := (List.mem_replicate.1 hq).2
  subst hq
  obtain ⟨j, _, rfl⟩ := List.mem_map.1 hal
  exact ZbW _)
 generalize (List.replicate (n - lo) ((List.range sz).map fun i => AV.ofV (zv.cells[i % sz]!))).flatten = zs at hlen r2 r3
 have hmn : (n - lo) * sz = n * sz - lo * sz := by rw [Nat.sub_mul]
 rw [had] at hρ'
 refine ⟨.raw (.tuple #[]), σ.set b (.own e (ZaB all (lo * sz) zs)), w', .inl ?_, h _ ⟨?_, fun a ha => hown.one a (List.mem_of_mem_take ha), .inr ⟨b, c, _, hc, rfl, by show (if b = b then _ else σ.blk b) = _; rw [if_pos rfl], g2, ?_, ?_, by omega, g6⟩⟩ ⟨fun g k hg hk => ?_, fun g hg => hg⟩, r2, Zak _, r3⟩
 ·simp [execOp, resolve, invoke, builtin, hρ', r1]
 ·rw [List.length_take, hown.len]
  omega
 ·unfold ZaB
  simp only [List.length_append, List.length_take, List.length_drop, hlen]
  omega
 ·unfold ZaB
  rw [List.append_assoc, List.take_append_of_le_length (by rw [List.length_take]; omega), List.take_take, Nat.min_self, <- g4, List.take_take, Nat.min_eq_left hm2]
 ·show (if g = b then _ else σ.blk g) = _
  rw [if_neg hg]
  exact hk
theorem Zq6 {e sz n b o : Nat} {v r : AV} {cells : List AV} (hx : ev env x = ptr b o) (hy : ev env y = r) (hs : Zax P t = some 1) (hown : Hd σ e sz v n cells) (hb : hbk v = some b) (ho : o < n * sz) (h1 : Zb7 r = true /\ r.cells = [r] /\ r.one = true)
 (h : ∀ τ, Hd τ e sz v n (cells.set o r) -> But (fun c => hbk v = some c) σ τ -> K (env.put d (.raw undef)) τ) : aOp P ops ⟨d, .store t x y, ty, pos, af, none⟩ env σ K := by
 obtain ⟨c, all, rfl, g1, g2, g3, g4, g5, g6⟩ := hown.at_ hb
 have q2 : n * sz <= c * sz := Nat.mul_le_mul_right _ g5
 have hsp : ZaB all o [r] = all.set o r := by
  unfold ZaB
  rw [List.set_eq_take_append_cons_drop, if_pos (by omega)]
  simp
 refine ZfV (cs' := all.set o r) hx hy g1 hs ?_ (by rw [h1.2.1, hsp]) fun τ k1 k2 => h τ ⟨by rw [List.length_set]; exact hown.len, fun a ha => ?_, .inr ⟨b, c, _, ?_, rfl, k1, k2.used _ g2, by rw [List.length_set]; exact g3, ?_, g5, g6⟩⟩ ⟨fun c' k hc hk => k2.keep _ _ (fun e => hc (by rw [e]; exact hb)) hk, k2.used⟩
 ·simp [h1.1, h1.2.1, h1.2.2]; omega
 ·rcases List.mem_or_eq_of_mem_set ha with ha | rfl
  ·exact hown.one a ha
  ·exact h1.2.2
 ·cases c with
  | zero => cases hb
  | succ c => omega
 ·rw [List.take_set, g4]
end
end Go.Proofs.Ytinpiaibhjmfaaa
