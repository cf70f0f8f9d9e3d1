/- XDe, XDz, XDcb, XDcc, XDcd in one. -/
import Derived.Test.YtinpiaibhjmfaaaDm
import Derived.Test.YtinpiaibhjmfaaaMd
import Derived.Test.YtinpiaibhjmfaaaMf
namespace Go.Proofs.Ytinpiaibhjmfaaa
open Go.RowKit
set_option linter.unusedSimpArgs false
set_option maxRecDepth 100000
set_option linter.unusedVariables false
abbrev Zmn := List (List UInt8 × AV)
def ZfF (es : Zmn) : List (Value × Value) := es.map fun p => (sV p.1, p.2.val)
theorem Zci : ∀ es : Zmn, Zht (ZfF es) = 0
 | [] => rfl
 | _ :: _ => rfl
def Zmo : Zmn -> List UInt8 -> Option AV
 | [], _ => none
 | p :: es, k => if k = p.1 then some p.2 else Zmo es k
def Zrq : Zmn -> List UInt8 -> AV -> Zmn
 | [], k, n => [(k, n)]
 | p :: es, k, n => if k = p.1 then (k, n) :: es else p :: Zrq es k n
def Zue : Zmn -> List UInt8 -> Zmn
 | [], _ => []
 | p :: es, k => if k = p.1 then es else p :: Zue es k
def Zrr (k : List UInt8) : Zmn -> Nat -> Option (Nat × Value)
 | [], _ => none
 | p :: es, i => if k = p.1 then some (i, p.2.val) else Zrr k es (i + 1)
section
variable {P : Program}
theorem ZiC {k : List UInt8} : ∀ {es : Zmn} {l : List MapEntry} (i : Nat), l.map (fun e : MapEntry => (e.key, e.val)) = ZfF es ->
 (Zmo es k = none /\ Zrr k es i = none /\ (∀ n, Zrq es k n = es ++ [(k, n)]) /\ Zue es k = es) \/
  ∃ j n, Zmo es k = some n /\ Zrr k es i = some (i + j, n.val) /\ (l[j]?).map (·.key) = some (sV k) /\ (∀ m f, (∀ e : MapEntry, ((f e).key, (f e).val) = (sV k, m.val)) -> (l.modify j f).map (fun e : MapEntry => (e.key, e.val)) = ZfF (Zrq es k m)) /\ (l.eraseIdx j).map (fun e : MapEntry => (e.key, e.val)) = ZfF (Zue es k)
 | [], [], i, _ => .inl ⟨rfl, rfl, fun v => rfl, rfl⟩
 | [], e :: l, i, h => by simp [ZfF] at h
 | p :: es, [], i, h => by simp [ZfF] at h
 | p :: es, e :: l, i, h => by
  unfold ZfF at h
  simp only [List.map_cons, List.cons.injEq] at h
  obtain ⟨h1, h2⟩ := h
  injection h1 with h1 h3
  unfold Zmo Zrq Zrr Zue
  by_cases hp : k = p.1
  ·subst hp
   refine .inr ⟨0, p.2, by rw [if_pos rfl], by rw [if_pos rfl]; rfl, by simp [h1], fun m f hf => ?_, ?_⟩
   ·rw [if_pos rfl]
    simp [List.modify, h2, hf e, ZfF]
   ·rw [if_pos rfl]
    simpa [ZfF] using h2
  ·rcases ZiC (k := k) (i + 1) h2 with ⟨g1, g2, g3, g4⟩ | ⟨j, n, g1, g2, g3, g4, g5⟩
   ·exact .inl ⟨by rw [if_neg hp]; exact g1, by rw [if_neg hp]; exact g2, fun v => by rw [if_neg hp, g3 v]; rfl, by rw [if_neg hp, g4]⟩
   ·refine .inr ⟨j + 1, n, by rw [if_neg hp]; exact g1, by rw [if_neg hp, show i + (j + 1) = i + 1 + j from by omega]; exact g2, by simpa using g3, fun m f hf => ?_, ?_⟩
    ·rw [if_neg hp, List.modify_succ_cons, List.map_cons, g4 m f hf, h1, h3]
     rfl
    ·rw [if_neg hp, List.eraseIdx_cons_succ, List.map_cons, g5, h1, h3]
     rfl
theorem ZnB {k : List UInt8} : ∀ {es : Zmn} {l : List MapEntry} (i : Nat), l.map (fun e : MapEntry => (e.key, e.val)) = ZfF es -> Instr.findNow .string (sV k) l i = some (Zrr k es i)
 | [], [], i, _ => rfl
 | [], e :: l, i, h => by simp [ZfF] at h
 | p :: es, [], i, h => by simp [ZfF] at h
 | p :: es, e :: l, i, h => by
  unfold ZfF at h
  simp only [List.map_cons, List.cons.injEq] at h
  obtain ⟨h1, h2⟩ := h
  injection h1 with h1 h3
  unfold Zrr Instr.findNow
  rw [h1, show Instr.sameNow .string (sV k) (sV p.1) = some (decide (k = p.1)) from congrArg some (Zgu k p.1)]
  by_cases hp : k = p.1
  ·rw [if_pos hp, decide_eq_true hp, h3]
  ·rw [if_neg hp, decide_eq_false hp]
   exact ZnB (i + 1) h2
theorem ZnC {kt : TypeId} {w : World} {k : List UInt8} {es : Zmn} {l : List MapEntry} (hk : P.underlying kt = some .string) (h : l.map (fun e : MapEntry => (e.key, e.val)) = ZfF es) : (Instr.findKey kt (sV k) l).run P w = .ok (Zrr k es 0) w := by
 unfold Instr.findKey
 rw [Sem.run_bind, run_underlying hk]
 dsimp only [Result.andThen]
 rw [ZnB 0 h]
 rfl
theorem Zqe {t kt et : TypeId} {es : Zmn} {arr : Array MapEntry} {c b : Nat} {k : List UInt8} {w : World} (t1 : P.underlying t = some (.map kt et)) (t2 : P.underlying kt = some .string) {zr : AV} (t4 : ZaN P et = some zr.val) (hh : w.heap[b]? = some (.map arr c)) (harr : arr.toList.map (fun e : MapEntry => (e.key, e.val)) = ZfF es) :
 (Instr.lookup t (.map (some b)) (sV k) false).run P w = .ok ((Zmo es k).getD zr).val w := by
 have pre : ∀ r, Zrr k es 0 = r -> (Instr.lookup t (.map (some b)) (sV k) false).run P w = .ok (match r with | some (_, v) => v | none => zr.val) w := by
  intro r hr
  unfold Instr.lookup
  rw [Sem.run_bind, run_underlying t1]
  dsimp only [Result.andThen]
  rw [Sem.run_bind, Ze3 hh]
  dsimp only [Result.andThen]
  rw [Sem.run_bind, Sem.run_pure]
  dsimp only [Result.andThen]
  rw [Sem.run_bind, Zfc t2]
  dsimp only [Result.andThen]
  rw [Sem.run_bind, ZnC t2 harr, hr]
  dsimp only [Result.andThen]
  cases r with
  | none =>
   dsimp only
   rw [Sem.run_bind, ZbD t4]
   rfl
  | some x => rfl
 rcases ZiC (k := k) 0 harr with ⟨m1, m2, _⟩ | ⟨j, n, m1, m2, _⟩
 ·rw [pre _ m2, m1]; rfl
 ·rw [pre _ m2, m1]; rfl
end
section
variable {P : Program} {ops : Array Oper} {env : Env} {σ τ : St} {K : Env -> St -> Prop} {d : Option Nat} {ty ty' t kt et : TypeId} {pos : String} {af : Array Edge} {x y z : Operand} {b n : Nat} {es : Zmn} {k : List UInt8}
theorem Zjq {zr : AV} : ∀ {es : Zmn}, (∀ p ∈ es, ∀ w B, Zaf w B p.2) -> (∀ w B, Zaf w B zr) -> ∀ w B, Zaf w B ((Zmo es k).getD zr)
 | [], _, hz, w, B => hz w B
 | p :: es, h, hz, w, B => by
  unfold Zmo
  split
  ·exact h p List.mem_cons_self w B
  ·exact Zjq (fun q hq => h q (List.mem_cons_of_mem _ hq)) hz w B
theorem Zet (hx : ev env x = Zbv b) (hy : ev env y = .raw (sV k)) (hb : σ.blk b = some (.map (ZfF es))) (t1 : P.underlying t = some (.map kt et)) (t2 : P.underlying kt = some .string) {zr : AV} (t4 : ZaN P et = some zr.val) (hes : ∀ p ∈ es, ∀ w B, Zaf w B p.2) (hzr : ∀ w B, Zaf w B zr)
 (h : K (env.put d ((Zmo es k).getD zr)) σ) : aOp P ops ⟨d, .lookup t x y false, ty, pos, af, none⟩ env σ K := by
 rw [ZaH rfl]
 have hvs : ((.lookup t x y false : Op).operands.toList.map (ev env)) = [Zbv b, .raw (sV k)] := by simp [Op.operands, hx, hy]
 show ZcE P _ (Op.operands _ |>.toList.map (ev env)) σ _
 rw [hvs]
 refine .inr ⟨rfl, fun ρv hρ w Z hH hV => ?_⟩
 obtain ⟨_, arr, c, hh, harr, _⟩ := hH.mapAt hb (Zci _)
 have hρ' := hρ
 simp [Op.operands, Zbv] at hρ'
 refine ⟨(Zmo es k).getD zr, σ, w, .inl ?_, h, hH, Zjq hes hzr _ _, .refl _ _⟩
 simp only [execOp, hρ'.1, hρ'.2]
 rw [Sem.run_bind, Zqe t1 t2 t4 hh harr]
 rfl
theorem Zqf (hx : ev env x = Zbv b) (hy : ev env y = .raw (sV k)) {n : AV} (hz : ev env z = n) (hb : σ.blk b = some (.map (ZfF es))) (t1 : P.underlying t = some (.map kt et)) (t2 : P.underlying kt = some .string)
 (h : ∀ τ, τ.blk b = some (.map (ZfF (Zrq es k n))) -> But (fun c => c = b) σ τ -> K (env.put d (.raw undef)) τ) : aOp P ops ⟨d, .mapUpdate t x y z, ty, pos, af, none⟩ env σ K := by
 rw [ZaH rfl]
 have hvs : ((.mapUpdate t x y z : Op).operands.toList.map (ev env)) = [Zbv b, .raw (sV k), n] := by simp [Op.operands, hx, hy, hz]
 show ZcE P _ (Op.operands _ |>.toList.map (ev env)) σ _
 rw [hvs]
 refine .inr ⟨rfl, fun ρv hρ w Z hH hV => ?_⟩
 obtain ⟨_, arr, c, hh, harr, hfr1, hfr2⟩ := hH.mapAt hb (Zci _)
 have hρ' := hρ
 simp [Op.operands, Zbv] at hρ'
 obtain ⟨r1, r2, r3⟩ := hρ'
 have fin : ∀ (arr' : Array MapEntry) (c' : Nat), ((∀ n ∈ arr'.toList.map fun e : MapEntry => e.born, n < c') /\ (arr'.toList.map fun e : MapEntry => e.born).Nodup) -> arr'.toList.map (fun e : MapEntry => (e.key, e.val)) = ZfF (Zrq es k n) -> (Instr.mapUpdate t (.map (some b)) (sV k) (n.val)).run P w = .ok () (Zcj w b arr' c') ->
  ∃ r σ' w', ((execOp ρv ⟨d, .mapUpdate t x y z, ty, pos, af, none⟩).run P w = .ok (.value r.val) w' \/ (execOp ρv ⟨d, .mapUpdate t x y z, ty, pos, af, none⟩).run P w = .ok .skip w' /\ r = .raw undef) /\ K (env.put d r) σ' /\ Zaj w' σ' Z /\ Zaf w' (σ'.free Z) r /\ Grow w σ w' σ' := by
  intro arr' c' h0 h1 h2
  obtain ⟨q1, q2⟩ := hH.write_map (a' := arr') (c' := c') hb hh h0 (by rw [h1]; exact Zci _)
  rw [h1] at q1 q2
  refine ⟨.raw undef, _, Zcj w b arr' c', .inr ⟨?_, rfl⟩, h _ ?_ ?_, q1, Zak _, q2⟩
  ·simp [execOp, r1, r2, r3, h2]
  ·show (if b = b then _ else σ.blk b) = _
   rw [if_pos rfl]
  ·exact ⟨fun c' k' hc hk => by
    show (if c' = b then _ else σ.blk c') = _
    rw [if_neg hc]; exact hk, fun c' hc => hc⟩
 have pre : ∀ r, Zrr k es 0 = r -> (Instr.mapUpdate t (.map (some b)) (sV k) (n.val)).run P w = (match r with
  | some (j, _) => do
   let key <- Instr.keyThatStays (((arr[j]?).map (fun e : MapEntry => e.key)).getD (sV k)) (sV k)
   setObj b (.map (arr.modify j fun (e : MapEntry) => { e with key, val := n.val }) c)
  | none => setObj b (.map (arr.push { key := sV k, val := n.val, born := c }) (c + 1))).run P w := by
  intro r hr
  unfold Instr.mapUpdate
  rw [Sem.run_bind, run_underlying t1]
  dsimp only [Result.andThen]
  rw [Sem.run_bind, Ze3 hh]
  dsimp only [Result.andThen]
  rw [Sem.run_bind, Zfc t2]
  dsimp only [Result.andThen]
  rw [Sem.run_bind, ZnC t2 harr, hr]
  dsimp only [Result.andThen]
  cases r <;> rfl
 rcases ZiC (k := k) 0 harr with ⟨m1, m2, m3, _⟩ | ⟨j, y', m1, m2, m3, m4, _⟩
 ·refine fin (arr.push { key := sV k, val := n.val, born := c }) (c + 1) (Zgt hfr1 hfr2) (by rw [m3 n, Array.toList_push, List.map_append, harr]; simp [ZfF]) ?_
  rw [pre _ m2]
  exact Zgv hh
 ·rw [Nat.zero_add] at m2
  refine fin (arr.modify j fun (e : MapEntry) => { e with key := sV k, val := n.val }) c (by rw [ZfY arr j (fun (e : MapEntry) => { e with key := sV k, val := n.val }) fun _ => rfl]; exact ⟨hfr1, hfr2⟩) ?_ ?_
  ·rw [Array.toList_modify]
   exact m4 n _ (fun e => rfl)
  ·rw [pre _ m2]
   dsimp only
   have hkey : ((arr[j]?).map (fun e : MapEntry => e.key)).getD (sV k) = sV k := by
    rw [Array.getElem?_toList] at m3
    rw [m3]; rfl
   rw [hkey, Sem.run_bind, Zk6]
   exact Zgv hh
end
end Go.Proofs.Ytinpiaibhjmfaaa
namespace Go.Proofs.Ytinpiaibhjmfaaa
open Go.RowKit
set_option maxRecDepth 100000
set_option linter.unusedVariables false
set_option linter.unusedSimpArgs false
theorem Zmp : Zax Try.prog 28 = some 5 := by kernel_rfl
structure At (x0 : List (List UInt8)) (bb mb : Nat) (i : Nat) (υ : St) (S : Nat -> Prop) (fs : List Fl) (pcs : List (Nat × Nat)) (pv av : AV) (safe : Nat) : Prop where
 disk : DAt υ bb S fs pcs 0 mb pv
 used : ∀ c, S c -> υ.used c
 wf : Wf fs pcs
 few : pcs.length <= i
 all : Hd υ 5 1 av (x0.take i).flatten.length (bys (x0.take i).flatten)
 apart : ∀ c, hbk av = some c -> ¬ S c
 sf : safe <= (x0.take i).flatten.length
 sum : ZbG pcs = (x0.take i).flatten.length - safe
 data : (i = 0 /\ dat fs = [] /\ pcs = []) \/ (0 < i /\ ∃ fb, dat fs = [([102], fb, (x0.take i).flatten)] /\ ∀ p ∈ pcs, p.1 = fb)
theorem At.ext {x0 : List (List UInt8)} {bb mb i : Nat} {υ τ : St} {S : Nat -> Prop} {fs : List Fl} {pcs : List (Nat × Nat)} {pv av : AV} {safe : Nat} (h : At x0 bb mb i υ S fs pcs pv av safe) (k : Ext υ τ) : At x0 bb mb i τ S fs pcs pv av safe :=
 ⟨h.disk.ext k, fun c hc => k.used _ (h.used c hc), h.wf, h.few, h.all.ext k, h.apart, h.sf, h.sum, h.data⟩
theorem At.sumD {x0 : List (List UInt8)} {bb mb i : Nat} {υ : St} {S : Nat -> Prop} {fs : List Fl} {pcs : List (Nat × Nat)} {pv av : AV} {safe : Nat} (h : At x0 bb mb i υ S fs pcs pv av safe) : sumD fs = (x0.take i).flatten.length := by
 rcases h.data with ⟨rfl, hd, _⟩ | ⟨_, fb, hd, _⟩ <;> rw [Zd8, hd] <;> simp
end Go.Proofs.Ytinpiaibhjmfaaa
namespace Go.Proofs.Ytinpiaibhjmfaaa
open Go.RowKit
set_option maxRecDepth 100000
set_option linter.unusedVariables false
set_option linter.unusedSimpArgs false
theorem Zdl : Program.underlying Try.prog 70 = some (.map 9 32) := by kernel_rfl
theorem Hd.validV {σ : St} {e sz n : Nat} {v : AV} {cells : List AV} (h : Hd σ e sz v n cells) : ∀ w B, Zaf w B v := fun w B => by
 rcases h.2.2 with ⟨rfl | ⟨ad, rfl⟩, _⟩ | ⟨b, c, all, _, rfl, _⟩
 ·exact Za1
 ·exact Zak _
 ·exact Zak _
structure Rw where
 nm : List UInt8
 v : AV
 d : List UInt8
def ZfR (l : List Rw) : Zmn := l.map fun r => (r.nm, r.v)
structure Zjr (υ : St) (T : Nat -> Prop) (m : Nat) (l : List Rw) : Prop where
 map : υ.blk m = some (.map (ZfF (ZfR l)))
 used : υ.used m
 row : ∀ r ∈ l, Hd υ 5 1 r.v r.d.length (bys r.d)
 nn : (l.map (·.nm)).Nodup
 own : T m /\ ∀ r ∈ l, ∀ x, hbk r.v = some x -> T x
theorem ZgL : ∀ {l : List Rw}, (l.map (·.nm)).Nodup -> ∀ r ∈ l, Zmo (ZfR l) r.nm = some r.v
 | a :: l, hn, r, hr => by
  rw [List.map_cons, List.nodup_cons] at hn
  show (if r.nm = a.nm then some a.v else Zmo (ZfR l) r.nm) = _
  rcases List.mem_cons.1 hr with rfl | hr
  ·rw [if_pos rfl]
  ·rw [if_neg fun e => hn.1 (List.mem_map.2 ⟨r, hr, e⟩), ZgL hn.2 r hr]
theorem ZnD {k : List UInt8} {v : AV} : ∀ {l : List Rw}, (∀ r ∈ l, r.nm ≠ k) -> Zrq (ZfR l) k v = ZfR l ++ [(k, v)]
 | [], _ => rfl
 | a :: l, h => by
  show (if k = a.nm then (k, v) :: ZfR l else (a.nm, a.v) :: Zrq (ZfR l) k v) = _
  rw [if_neg fun e => h a List.mem_cons_self e.symm, ZnD fun r hr => h r (List.mem_cons_of_mem _ hr)]
  rfl
section
variable {σ υ τ : St} {T : Nat -> Prop} {m : Nat} {l : List Rw}
theorem Zjr.but {U : Nat -> Prop} (h : Zjr υ T m l) (k : But U υ τ) (hU : ∀ c, T c -> ¬ U c) : Zjr τ T m l :=
 ⟨k.keep _ _ (hU _ h.own.1) h.map, k.used _ h.used, fun r hr => (h.row r hr).but k fun b hb => hU _ (h.own.2 r hr b hb), h.nn, h.own⟩
theorem Zjr.ext (h : Zjr υ T m l) (k : Ext υ τ) : Zjr τ T m l := h.but (U := fun _ => False) k.but fun _ _ => id
theorem Zjr.valid (h : Zjr υ T m l) : ∀ p ∈ ZfR l, ∀ w B, Zaf w B p.2 := fun p hp => by
 obtain ⟨r, hr, rfl⟩ := List.mem_map.1 hp
 exact (h.row r hr).validV
theorem Zjr.push {k d : List UInt8} {v : AV} (h : Zjr υ T m l) (hv : Hd υ 5 1 v d.length (bys d)) (hne : ∀ r ∈ l, r.nm ≠ k) (hb : τ.blk m = some (.map (ZfF (Zrq (ZfR l) k v)))) (k4 : But (fun c => c = m) υ τ) : Zjr τ (fun c => T c \/ hbk v = some c) m (l ++ [⟨k, v, d⟩]) := by
 have hH : ∀ {u : AV} {n : Nat} {cs : List AV}, Hd υ 5 1 u n cs -> Hd τ 5 1 u n cs := fun {u n cs} hu => hu.but k4 fun c hc hq => by
  obtain ⟨all, hall⟩ := hu.blk hc
  exact ZbM hall h.map hq
 refine ⟨?_, k4.used _ h.used, fun r hr => ?_, ?_, .inl h.own.1, fun r hr x hx => ?_⟩
 ·rw [hb, ZnD hne]
  unfold ZfR
  rw [List.map_append]
  rfl
 ·rcases List.mem_append.1 hr with hr | hr
  ·exact hH (h.row r hr)
  ·rw [List.mem_singleton.1 hr]
   exact hH hv
 ·rw [List.map_append, List.nodup_append]
  refine ⟨h.nn, by simp, fun a ha b hb e => ?_⟩
  obtain ⟨r, hr, rfl⟩ := List.mem_map.1 ha
  simp at hb
  exact hne r hr (e.trans hb)
 ·rcases List.mem_append.1 hr with hr | hr
  ·exact .inl (h.own.2 r hr x hx)
  ·rw [List.mem_singleton.1 hr] at hx
   exact .inr hx
end
def Zhx (fs : List Fl) : List Fl := fs.mergeSort fun f g => leB f.nm g.nm
theorem Zdb (fs : List Fl) : (Zhx fs).Perm fs := List.mergeSort_perm _ _
theorem Zmq (fs : List Fl) : (Zhx fs).map (·.nm) = srt (fs.map (·.nm)) := List.map_mergeSort fun _ _ _ _ => rfl
section
variable {σ : St} {bb mb : Nat} {S : Nat -> Prop} {fs : List Fl} {pcs : List (Nat × Nat)} {size : Int} {pv : AV} {K : AV -> St -> Prop} {M B : Nat}
theorem Zmr (fs : List Fl) : (srt (fs.map (·.nm))).length = (Zhx fs).length := by rw [<- Zmq, List.length_map]
theorem Zqg (fs : List Fl) (i : Nat) (hi : i < (srt (fs.map (·.nm))).length) (h2 : i < (Zhx fs).length) : (srt (fs.map (·.nm)))[i] = (Zhx fs)[i].nm := by
 have := List.getElem_map (fun f : Fl => f.nm) (l := Zhx fs) (i := i) (h := by rw [List.length_map]; exact h2)
 rw [<- this]
 congr 1
 exact (Zmq fs).symm
theorem Inv.nodupS (I : Inv σ bb mb size S fs pcs pv M B) : (srt (fs.map (·.nm))).Nodup := (ZhJ _).nodup_iff.2 I.disk.nn
theorem ZgM (I : Inv σ bb mb size S fs pcs pv M B) (hB : B <= 1000000000) (hM : M <= 1000000000)
 (hK : ∀ m l τ T, Zjr τ T m l -> Ext σ τ -> (∀ c, T c -> Zde σ c /\ τ.used c) -> (l.map fun r => (r.nm, r.d)).Perm (fs.map fun f => (f.nm, f.d)) -> K (Zbv m) τ) : Zau Try.prog 33 [ptr bb 0] σ K := by
 refine ZaA ZaL Try.func33 rfl rfl rfl (Nat.le_of_ble_eq_true rfl) ?_
 refine ZdU 0 (v0 := ptr bb 0) rfl ?_
 intro e he
 first | refine Zaa ?_ | refine Zad ?_ | (refine Zac ?_; refine Zaa ?_) | (refine Zac ?_; refine Zac ?_; refine Zaa ?_)
 refine Zab (Zai rfl (by simp only [EV, Nat.reduceEqDiff, ↓reduceIte, he] <;> try rfl) ?_)
 refine Zah ?_
 apply ZdU 0
 ·simp only [EV, Nat.reduceEqDiff, ↓reduceIte, he] <;> try rfl
 clear he e
 intro e he
 first | refine Zaa ?_ | refine Zad ?_ | (refine Zac ?_; refine Zaa ?_) | (refine Zac ?_; refine Zac ?_; refine Zaa ?_)
 refine Zab ?_
 refine Zg5 (hm := Zdl) fun m hum hnm => ?_
 have hX1 : Ext σ (σ.put m (.map [])) := Ext.put _ hnm
 have hm1 : (σ.put m (.map [])).blk m = some (.map (ZfF (ZfR []))) := ZaE _ _ _
 have hu1 : (σ.put m (.map [])).used m := .inr rfl
 generalize σ.put m (.map []) = σ1 at hX1 hm1 hu1 ⊢
 refine Zab (Zai rfl (by simp only [EV, Nat.reduceEqDiff, ↓reduceIte, he] <;> try rfl) ?_)
 refine Zah ?_
 apply ZcW 0 3
 ·simp only [EV, Nat.reduceEqDiff, ↓reduceIte, he] <;> try rfl
 ·simp only [EV, Nat.reduceEqDiff, ↓reduceIte, he] <;> try rfl
 clear he e
 intro e he
 first | refine Zaa ?_ | refine Zad ?_ | (refine Zac ?_; refine Zaa ?_) | (refine Zac ?_; refine Zac ?_; refine Zaa ?_)
 refine Zab (Zai rfl (by simp only [EV, Nat.reduceEqDiff, ↓reduceIte, he] <;> try rfl) ?_)
 refine Zab ?_
 refine Zas (vs := [ptr bb 0]) (by simp only [List.map_cons, List.map_nil, EV, Nat.reduceEqDiff, ↓reduceIte, he] <;> try rfl) ?_
 refine Zkn (I.ext hX1).disk (fun f hf => by have := I.nms f hf; omega) (by have := I.nfs; omega) fun v σ2 hv hX2 hnv => ?_
 refine Zab (Zai rfl (by simp only [EV, Nat.reduceEqDiff, ↓reduceIte, he] <;> try rfl) ?_)
 refine Zah ?_
 apply ZcX 0 3 4
 ·simp only [EV, Nat.reduceEqDiff, ↓reduceIte, he] <;> try rfl
 ·simp only [EV, Nat.reduceEqDiff, ↓reduceIte, he] <;> try rfl
 ·simp only [EV, Nat.reduceEqDiff, ↓reduceIte, he] <;> try rfl
 clear he e
 intro e he
 first | refine Zaa ?_ | refine Zad ?_ | (refine Zac ?_; refine Zaa ?_) | (refine Zac ?_; refine Zac ?_; refine Zaa ?_)
 refine Zab (Zai rfl (by simp only [EV, Nat.reduceEqDiff, ↓reduceIte, he] <;> try rfl) ?_)
 refine Zah ?_
 apply Zcm 0 3 4 5
 ·simp only [EV, Nat.reduceEqDiff, ↓reduceIte, he] <;> try rfl
 ·simp only [EV, Nat.reduceEqDiff, ↓reduceIte, he] <;> try rfl
 ·simp only [EV, Nat.reduceEqDiff, ↓reduceIte, he] <;> try rfl
 ·simp only [EV, Nat.reduceEqDiff, ↓reduceIte, he] <;> try rfl
 clear he e
 intro e he
 have hnd := I.nodupS
 have hlen := Zmr fs
 have hnsl : (srt (fs.map (·.nm))).length <= 1000000000 := by
  rw [hlen, (Zdb fs).length_eq]
  have := I.nfs
  omega
 have hget := Zqg fs
 generalize hns : srt (fs.map (·.nm)) = ns at hv hnd hlen hnsl hget ⊢
 have hfl := I.file hB
 refine Zcq (fun env υ => ∃ l T, (env 3 = Zbv m) /\ Zjr υ T m l /\ Ext σ υ /\ (∀ c, T c -> Zde σ c /\ υ.used c) /\ (l.map fun r => (r.nm, r.d)) = (Zhx fs).map fun f => (f.nm, f.d)) ?_ ?_
 ·refine ZbB ?_
  refine ZcV (fun μ env υ => ∃ (i : Nat), ∃ l T, μ = ns.length - i /\ i <= ns.length /\ (env 0 = ptr bb 0 /\ env 3 = Zbv m /\ env 4 = v /\ env 5 = vI i) /\ Zjr υ T m l /\ Ext σ υ /\ (∀ c, T c -> Zde σ c /\ υ.used c) /\ ((l.map fun r => (r.nm, r.d)) = ((Zhx fs).take i).map fun f => (f.nm, f.d)) /\ Hd υ 9 1 v ns.length (Zj9 ns)) ⟨_, 0, [], fun c => c = m, rfl, Nat.zero_le _, he, ⟨hX2.keep _ _ hm1, hX2.used _ hu1, (fun r hr => by cases hr), List.nodup_nil, rfl, fun r hr => by cases hr⟩, hX1.trans hX2, fun c hc => by rw [hc]; exact ⟨⟨hnm, hum⟩, hX2.used _ hu1⟩, rfl, hv⟩ ?_
  clear he e hv
  rintro _ e υ ⟨i, l, T, rfl, hi, he, hF, hE, hT, hl, hv⟩
  first | refine Zaa ?_ | refine Zad ?_ | (refine Zac ?_; refine Zaa ?_) | (refine Zac ?_; refine Zac ?_; refine Zaa ?_)
  refine Zab (Zai rfl (by simp only [EV, Nat.reduceEqDiff, ↓reduceIte, he] <;> try rfl) ?_)
  refine Zab (Zai rfl (by simp only [EV, Nat.reduceEqDiff, ↓reduceIte, he] <;> try rfl) ?_)
  refine Zab ?_
  refine ZcT (by simp only [EV, Nat.reduceEqDiff, ↓reduceIte, he] <;> try rfl) hv rfl Zfd ?_
  refine Zab ?_
  refine Zho i ns.length (by simp only [EV, Nat.reduceEqDiff, ↓reduceIte, he] <;> try rfl) (by simp only [EV, Nat.reduceEqDiff, ↓reduceIte, he] <;> try rfl) ?_
  refine Zah ?_
  apply ZcI 0 3 4 5 14
  ·simp only [EV, Nat.reduceEqDiff, ↓reduceIte, he] <;> try rfl
  ·simp only [EV, Nat.reduceEqDiff, ↓reduceIte, he] <;> try rfl
  ·simp only [EV, Nat.reduceEqDiff, ↓reduceIte, he] <;> try rfl
  ·simp only [EV, Nat.reduceEqDiff, ↓reduceIte, he] <;> try rfl
  ·simp only [EV, Nat.reduceEqDiff, ↓reduceIte, he] <;> try rfl
  clear he e
  intro e he
  refine ZaX (t := decide (i < ns.length)) (by simp only [EV, Nat.reduceEqDiff, ↓reduceIte, he] <;> try rfl) (fun ht => ?_) (fun ht => ?_)
  ·have hlt : i < ns.length := of_decide_eq_true ht
   have hlt2 : i < (Zhx fs).length := by rw [<- hlen]; exact hlt
   have hgm : (Zhx fs)[i] ∈ fs := (Zdb fs).mem_iff.1 (List.getElem_mem hlt2)
   refine Zbb ?_
   refine Zcq (fun env υ => ∃ l T, (env 0 = ptr bb 0 /\ env 3 = Zbv m /\ env 4 = v /\ env 5 = vI i) /\ Zjr υ T m l /\ Ext σ υ /\ (∀ c, T c -> Zde σ c /\ υ.used c) /\ ((l.map fun r => (r.nm, r.d)) = ((Zhx fs).take (i + 1)).map fun f => (f.nm, f.d)) /\ Hd υ 9 1 v ns.length (Zj9 ns)) ?_ ?_
   ·refine ZbB ?_
    first | refine Zaa ?_ | refine Zad ?_ | (refine Zac ?_; refine Zaa ?_) | (refine Zac ?_; refine Zac ?_; refine Zaa ?_)
    refine Zab (Zai rfl (by simp only [EV, Nat.reduceEqDiff, ↓reduceIte, he] <;> try rfl) ?_)
    refine Zab (Zai rfl (by simp only [EV, Nat.reduceEqDiff, ↓reduceIte, he] <;> try rfl) ?_)
    refine Zab (Zai rfl (by simp only [EV, Nat.reduceEqDiff, ↓reduceIte, he] <;> try rfl) ?_)
    refine Zli (v := v) (.inr hv) hlt (by simp only [EV, Nat.reduceEqDiff, ↓reduceIte, he] <;> try rfl) (by simp only [EV, Nat.reduceEqDiff, ↓reduceIte, he] <;> try rfl) fun u => ?_
    refine Zab ?_
    refine Zas (vs := [ptr bb 0, .raw (sV ns[i])]) (by simp only [List.map_cons, List.map_nil, EV, Nat.reduceEqDiff, ↓reduceIte, he] <;> try rfl) ?_
    refine Zkc (I.ext hE).disk hfl (fun hno => absurd (hget i hlt hlt2).symm (hno _ hgm)) fun f0 hf0 hnm0 υ2 v5 hv5 hX5 hn5 => ?_
    obtain rfl : f0 = (Zhx fs)[i] := I.disk.uniqN hf0 hgm (by rw [hnm0, hget i hlt hlt2])
    refine Zab (Zai rfl (by simp only [EV, Nat.reduceEqDiff, ↓reduceIte, he] <;> try rfl) ?_)
    refine Zab ?_
    refine Za0 (l := [v5, vT true]) (by simp only [EV, Nat.reduceEqDiff, ↓reduceIte, he] <;> try rfl) rfl ?_
    refine Zab ?_
    refine Za0 (l := [v5, vT true]) (by simp only [EV, Nat.reduceEqDiff, ↓reduceIte, he] <;> try rfl) rfl ?_
    refine Zab (Zai rfl (by simp only [EV, Nat.reduceEqDiff, ↓reduceIte, he] <;> try rfl) ?_)
    refine Zab (Zai rfl (by simp only [EV, Nat.reduceEqDiff, ↓reduceIte, he] <;> try rfl) ?_)
    refine Zah ?_
    apply ZcI 0 3 4 5 6
    ·simp only [EV, Nat.reduceEqDiff, ↓reduceIte, he] <;> try rfl
    ·simp only [EV, Nat.reduceEqDiff, ↓reduceIte, he] <;> try rfl
    ·simp only [EV, Nat.reduceEqDiff, ↓reduceIte, he] <;> try rfl
    ·simp only [EV, Nat.reduceEqDiff, ↓reduceIte, he] <;> try rfl
    ·simp only [EV, Nat.reduceEqDiff, ↓reduceIte, he] <;> try rfl
    clear he e
    intro e he
    first | refine Zaa ?_ | refine Zad ?_ | (refine Zac ?_; refine Zaa ?_) | (refine Zac ?_; refine Zac ?_; refine Zaa ?_)
    refine Zab (Zai rfl (by simp only [EV, Nat.reduceEqDiff, ↓reduceIte, he] <;> try rfl) ?_)
    refine Zab (Zai rfl (by simp only [EV, Nat.reduceEqDiff, ↓reduceIte, he] <;> try rfl) ?_)
    refine Zab (Zai rfl (by simp only [EV, Nat.reduceEqDiff, ↓reduceIte, he] <;> try rfl) ?_)
    refine Zli (v := v) (.inr (hv.ext hX5)) hlt (by simp only [EV, Nat.reduceEqDiff, ↓reduceIte, he] <;> try rfl) (by simp only [EV, Nat.reduceEqDiff, ↓reduceIte, he] <;> try rfl) fun u => ?_
    refine Zab (Zai rfl (by simp only [EV, Nat.reduceEqDiff, ↓reduceIte, he] <;> try rfl) ?_)
    refine Zab ?_
    refine Zqf (k := ns[i]) (es := ZfR l) (b := m) (n := v5) (by simp only [EV, Nat.reduceEqDiff, ↓reduceIte, he] <;> try rfl) (by simp only [EV, Nat.reduceEqDiff, ↓reduceIte, he] <;> try rfl) (by simp only [EV, Nat.reduceEqDiff, ↓reduceIte, he] <;> try rfl) (hF.ext hX5).map Zdl Zel fun υ3 hm3 k3 => ?_
    refine Zah ?_
    have hF3 := (hF.ext hX5).push hv5 (fun r hr e => ?_) hm3 k3
    ·refine ⟨rfl, _, _, ⟨by simp only [EV, Nat.reduceEqDiff, ↓reduceIte, he] <;> try rfl, by simp only [EV, Nat.reduceEqDiff, ↓reduceIte, he] <;> try rfl, by simp only [EV, Nat.reduceEqDiff, ↓reduceIte, he] <;> try rfl, by simp only [EV, Nat.reduceEqDiff, ↓reduceIte, he] <;> try rfl⟩, hF3, But.ext (hE.trans hX5) (fun c hc => by rw [hc]; exact hnm) k3, fun c hc => ?_, ?_, ?_⟩
     ·rcases hc with hc | hc
      ·exact ⟨(hT c hc).1, k3.used _ (hX5.used _ (hT c hc).2)⟩
      ·exact ⟨(hn5 c hc).of hE, k3.used _ (hv5.used hc)⟩
     ·rw [List.map_append, hl, List.take_succ_eq_append_getElem hlt2, List.map_append]
      show _ ++ [(ns[i], _)] = _ ++ [((Zhx fs)[i].nm, _)]
      rw [hget i hlt hlt2]
     ·exact (hv.ext hX5).but k3 fun c hc hq => by
       obtain ⟨all, hall⟩ := (hv.ext hX5).blk hc
       exact ZbM hall (hF.ext hX5).map hq
    ·have hm1 : r.nm ∈ ns.take i := by
      have e1 : (l.map fun r => r.nm) = ns.take i := by
       have := congrArg (List.map Prod.fst) hl
       rw [List.map_map, List.map_map] at this
       rw [<- hns, <- Zmq, <- List.map_take]
       exact this
      rw [<- e1]
      exact List.mem_map.2 ⟨r, hr, rfl⟩
     rw [e] at hm1
     have := hnd
     rw [<- List.take_append_drop i ns, List.nodup_append] at this
     exact this.2.2 _ hm1 ns[i] (by rw [List.drop_eq_getElem_cons hlt]; exact List.mem_cons_self) rfl
   ·clear he e hF hE hT hl hv
    rintro e υ ⟨l, T, he, hF, hE, hT, hl, hv⟩
    first | refine Zaa ?_ | refine Zad ?_ | (refine Zac ?_; refine Zaa ?_) | (refine Zac ?_; refine Zac ?_; refine Zaa ?_)
    refine Zab (Zai rfl (by simp only [EV, Nat.reduceEqDiff, ↓reduceIte, he] <;> try rfl) ?_)
    refine Zab ?_
    refine Zd4 i 1 (by simp only [EV, Nat.reduceEqDiff, ↓reduceIte, he] <;> try rfl) (by simp only [EV, Nat.reduceEqDiff, ↓reduceIte, he] <;> try rfl) (by omega) ?_
    refine Zab (Zai rfl (by simp only [EV, Nat.reduceEqDiff, ↓reduceIte, he] <;> try rfl) ?_)
    refine Zah ?_
    show ∃ n', n' < _ /\ _
    exact ⟨_, (by omega : ns.length - (i + 1) < ns.length - i), i + 1, l, T, rfl, hlt, ⟨by simp only [EV, Nat.reduceEqDiff, ↓reduceIte, he] <;> try rfl, by simp only [EV, Nat.reduceEqDiff, ↓reduceIte, he] <;> try rfl, by simp only [EV, Nat.reduceEqDiff, ↓reduceIte, he] <;> try rfl, by simp only [EV, Nat.reduceEqDiff, ↓reduceIte, he] <;> try rfl⟩, hF, hE, hT, hl, hv⟩
  ·have hke : i = ns.length := by have := of_decide_eq_false ht; omega
   refine ZdZ ?_
   refine ⟨rfl, l, T, by simp only [EV, Nat.reduceEqDiff, ↓reduceIte, he] <;> try rfl, hF, hE, hT, ?_⟩
   rw [hl, hke, hlen, List.take_length]
 clear he e hv
 rintro e υ ⟨l, T, he, hF, hE, hT, hl⟩
 first | refine Zaa ?_ | refine Zad ?_ | (refine Zac ?_; refine Zaa ?_) | (refine Zac ?_; refine Zac ?_; refine Zaa ?_)
 refine Zab (Zai rfl (by simp only [EV, Nat.reduceEqDiff, ↓reduceIte, he] <;> try rfl) ?_)
 refine Zab (Zai rfl (by simp only [EV, Nat.reduceEqDiff, ↓reduceIte, he] <;> try rfl) ?_)
 refine Zah ?_
 refine ZaW ?_
 show ∃ r, Zan _ _ _ _ r /\ _
 exact ⟨_, ZaD rfl (by simp only [EV, Nat.reduceEqDiff, ↓reduceIte, he] <;> try rfl), hK m l υ T hF hE hT (by rw [hl]; exact (Zdb fs).map _)⟩
theorem ZiD {l m : List Fl} (h : l.Perm m) : sumD l = sumD m := by
 unfold sumD
 exact (h.map _).sum_nat
theorem Zrs (I : Inv σ bb mb size S fs pcs pv M B) (hB : B <= 1000000000) (hM : M <= 1000000000)
 (hK : ∀ τ, Ext σ τ -> K (vI (sumD fs)) τ) : Zau Try.prog 32 [ptr bb 0] σ K := by
 refine ZaA ZaL Try.func32 rfl rfl rfl (Nat.le_of_ble_eq_true rfl) ?_
 refine ZdU 0 (v0 := ptr bb 0) rfl ?_
 intro e he
 first | refine Zaa ?_ | refine Zad ?_ | (refine Zac ?_; refine Zaa ?_) | (refine Zac ?_; refine Zac ?_; refine Zaa ?_)
 refine Zab (Zai rfl (by simp only [EV, Nat.reduceEqDiff, ↓reduceIte, he] <;> try rfl) ?_)
 refine Zah ?_
 apply ZdU 0
 ·simp only [EV, Nat.reduceEqDiff, ↓reduceIte, he] <;> try rfl
 clear he e
 intro e he
 first | refine Zaa ?_ | refine Zad ?_ | (refine Zac ?_; refine Zaa ?_) | (refine Zac ?_; refine Zac ?_; refine Zaa ?_)
 refine Zab (Zai rfl (by simp only [EV, Nat.reduceEqDiff, ↓reduceIte, he] <;> try rfl) ?_)
 refine Zah ?_
 apply ZcW 0 3
 ·simp only [EV, Nat.reduceEqDiff, ↓reduceIte, he] <;> try rfl
 ·simp only [EV, Nat.reduceEqDiff, ↓reduceIte, he] <;> try rfl
 clear he e
 intro e he
 first | refine Zaa ?_ | refine Zad ?_ | (refine Zac ?_; refine Zaa ?_) | (refine Zac ?_; refine Zac ?_; refine Zaa ?_)
 refine Zab (Zai rfl (by simp only [EV, Nat.reduceEqDiff, ↓reduceIte, he] <;> try rfl) ?_)
 refine Zab ?_
 refine Zas (vs := [ptr bb 0]) (by simp only [List.map_cons, List.map_nil, EV, Nat.reduceEqDiff, ↓reduceIte, he] <;> try rfl) ?_
 refine Zkn I.disk (fun f hf => by have := I.nms f hf; omega) (by have := I.nfs; omega) fun v σ2 hv hX2 hnv => ?_
 refine Zab (Zai rfl (by simp only [EV, Nat.reduceEqDiff, ↓reduceIte, he] <;> try rfl) ?_)
 refine Zah ?_
 apply ZcX 0 3 4
 ·simp only [EV, Nat.reduceEqDiff, ↓reduceIte, he] <;> try rfl
 ·simp only [EV, Nat.reduceEqDiff, ↓reduceIte, he] <;> try rfl
 ·simp only [EV, Nat.reduceEqDiff, ↓reduceIte, he] <;> try rfl
 clear he e
 intro e he
 first | refine Zaa ?_ | refine Zad ?_ | (refine Zac ?_; refine Zaa ?_) | (refine Zac ?_; refine Zac ?_; refine Zaa ?_)
 refine Zab (Zai rfl (by simp only [EV, Nat.reduceEqDiff, ↓reduceIte, he] <;> try rfl) ?_)
 refine Zah ?_
 apply Zcm 0 3 4 5
 ·simp only [EV, Nat.reduceEqDiff, ↓reduceIte, he] <;> try rfl
 ·simp only [EV, Nat.reduceEqDiff, ↓reduceIte, he] <;> try rfl
 ·simp only [EV, Nat.reduceEqDiff, ↓reduceIte, he] <;> try rfl
 ·simp only [EV, Nat.reduceEqDiff, ↓reduceIte, he] <;> try rfl
 clear he e
 intro e he
 have hlen := Zmr fs
 have hnsl : (srt (fs.map (·.nm))).length <= 1000000000 := by
  rw [hlen, (Zdb fs).length_eq]
  have := I.nfs
  omega
 have hget := Zqg fs
 generalize hns : srt (fs.map (·.nm)) = ns at hv hlen hnsl hget ⊢
 have hfl := I.file hB
 have hsum : ∀ i, sumD ((Zhx fs).take i) <= 1000000000 := fun i => by
  have h1 := ZgI (List.take_sublist i (Zhx fs))
  have h2 := ZiD (Zdb fs)
  have := I.sum
  omega
 refine Zcq (fun env υ => (env 3 = vI (sumD fs)) /\ Ext σ υ) ?_ ?_
 ·refine ZbB ?_
  refine ZcV (fun μ env υ => ∃ (i : Nat), μ = ns.length - i /\ i <= ns.length /\ (env 0 = ptr bb 0 /\ env 3 = vI (sumD ((Zhx fs).take i)) /\ env 4 = v /\ env 5 = vI i) /\ Ext σ υ /\ Hd υ 9 1 v ns.length (Zj9 ns)) ⟨_, 0, rfl, Nat.zero_le _, he, hX2, hv⟩ ?_
  clear he e hv
  rintro _ e υ ⟨i, rfl, hi, he, hE, hv⟩
  first | refine Zaa ?_ | refine Zad ?_ | (refine Zac ?_; refine Zaa ?_) | (refine Zac ?_; refine Zac ?_; refine Zaa ?_)
  refine Zab (Zai rfl (by simp only [EV, Nat.reduceEqDiff, ↓reduceIte, he] <;> try rfl) ?_)
  refine Zab (Zai rfl (by simp only [EV, Nat.reduceEqDiff, ↓reduceIte, he] <;> try rfl) ?_)
  refine Zab ?_
  refine ZcT (by simp only [EV, Nat.reduceEqDiff, ↓reduceIte, he] <;> try rfl) hv rfl Zfd ?_
  refine Zab ?_
  refine Zho i ns.length (by simp only [EV, Nat.reduceEqDiff, ↓reduceIte, he] <;> try rfl) (by simp only [EV, Nat.reduceEqDiff, ↓reduceIte, he] <;> try rfl) ?_
  refine Zah ?_
  apply ZcI 0 3 4 5 13
  ·simp only [EV, Nat.reduceEqDiff, ↓reduceIte, he] <;> try rfl
  ·simp only [EV, Nat.reduceEqDiff, ↓reduceIte, he] <;> try rfl
  ·simp only [EV, Nat.reduceEqDiff, ↓reduceIte, he] <;> try rfl
  ·simp only [EV, Nat.reduceEqDiff, ↓reduceIte, he] <;> try rfl
  ·simp only [EV, Nat.reduceEqDiff, ↓reduceIte, he] <;> try rfl
  clear he e
  intro e he
  refine ZaX (t := decide (i < ns.length)) (by simp only [EV, Nat.reduceEqDiff, ↓reduceIte, he] <;> try rfl) (fun ht => ?_) (fun ht => ?_)
  ·have hlt : i < ns.length := of_decide_eq_true ht
   have hlt2 : i < (Zhx fs).length := by rw [<- hlen]; exact hlt
   have hgm : (Zhx fs)[i] ∈ fs := (Zdb fs).mem_iff.1 (List.getElem_mem hlt2)
   have hs1 : sumD ((Zhx fs).take (i + 1)) = sumD ((Zhx fs).take i) + (Zhx fs)[i].d.length := by
    rw [List.take_succ_eq_append_getElem hlt2]
    unfold sumD
    rw [List.map_append, List.sum_append]
    simp
   have hs0 := hsum i
   have hs2 := hsum (i + 1)
   refine Zbb ?_
   refine Zcq (fun env υ => (env 0 = ptr bb 0 /\ env 3 = vI (sumD ((Zhx fs).take (i + 1))) /\ env 4 = v /\ env 5 = vI i) /\ Ext σ υ /\ Hd υ 9 1 v ns.length (Zj9 ns)) ?_ ?_
   ·refine ZbB ?_
    first | refine Zaa ?_ | refine Zad ?_ | (refine Zac ?_; refine Zaa ?_) | (refine Zac ?_; refine Zac ?_; refine Zaa ?_)
    refine Zab (Zai rfl (by simp only [EV, Nat.reduceEqDiff, ↓reduceIte, he] <;> try rfl) ?_)
    refine Zab (Zai rfl (by simp only [EV, Nat.reduceEqDiff, ↓reduceIte, he] <;> try rfl) ?_)
    refine Zab (Zai rfl (by simp only [EV, Nat.reduceEqDiff, ↓reduceIte, he] <;> try rfl) ?_)
    refine Zli (v := v) (.inr hv) hlt (by simp only [EV, Nat.reduceEqDiff, ↓reduceIte, he] <;> try rfl) (by simp only [EV, Nat.reduceEqDiff, ↓reduceIte, he] <;> try rfl) fun u => ?_
    refine Zab ?_
    refine Zas (vs := [ptr bb 0, .raw (sV ns[i])]) (by simp only [List.map_cons, List.map_nil, EV, Nat.reduceEqDiff, ↓reduceIte, he] <;> try rfl) ?_
    refine Zkc (I.ext hE).disk hfl (fun hno => absurd (hget i hlt hlt2).symm (hno _ hgm)) fun f0 hf0 hnm0 υ2 v5 hv5 hX5 hn5 => ?_
    obtain rfl : f0 = (Zhx fs)[i] := I.disk.uniqN hf0 hgm (by rw [hnm0, hget i hlt hlt2])
    refine Zab (Zai rfl (by simp only [EV, Nat.reduceEqDiff, ↓reduceIte, he] <;> try rfl) ?_)
    refine Zab ?_
    refine Za0 (l := [v5, vT true]) (by simp only [EV, Nat.reduceEqDiff, ↓reduceIte, he] <;> try rfl) rfl ?_
    refine Zab ?_
    refine Za0 (l := [v5, vT true]) (by simp only [EV, Nat.reduceEqDiff, ↓reduceIte, he] <;> try rfl) rfl ?_
    refine Zab (Zai rfl (by simp only [EV, Nat.reduceEqDiff, ↓reduceIte, he] <;> try rfl) ?_)
    refine Zab (Zai rfl (by simp only [EV, Nat.reduceEqDiff, ↓reduceIte, he] <;> try rfl) ?_)
    refine Zah ?_
    apply ZcI 0 3 4 5 6
    ·simp only [EV, Nat.reduceEqDiff, ↓reduceIte, he] <;> try rfl
    ·simp only [EV, Nat.reduceEqDiff, ↓reduceIte, he] <;> try rfl
    ·simp only [EV, Nat.reduceEqDiff, ↓reduceIte, he] <;> try rfl
    ·simp only [EV, Nat.reduceEqDiff, ↓reduceIte, he] <;> try rfl
    ·simp only [EV, Nat.reduceEqDiff, ↓reduceIte, he] <;> try rfl
    clear he e
    intro e he
    first | refine Zaa ?_ | refine Zad ?_ | (refine Zac ?_; refine Zaa ?_) | (refine Zac ?_; refine Zac ?_; refine Zaa ?_)
    refine Zab (Zai rfl (by simp only [EV, Nat.reduceEqDiff, ↓reduceIte, he] <;> try rfl) ?_)
    refine Zab (Zai rfl (by simp only [EV, Nat.reduceEqDiff, ↓reduceIte, he] <;> try rfl) ?_)
    refine Zab ?_
    refine ZcT (by simp only [EV, Nat.reduceEqDiff, ↓reduceIte, he] <;> try rfl) hv5 rfl Zb3 ?_
    refine Zab ?_
    refine Zd4 (sumD ((Zhx fs).take i)) ((Zhx fs)[i].d.length) (by simp only [EV, Nat.reduceEqDiff, ↓reduceIte, he] <;> try rfl) (by simp only [EV, Nat.reduceEqDiff, ↓reduceIte, he] <;> try rfl) (by omega) ?_
    refine Zab (Zai rfl (by simp only [EV, Nat.reduceEqDiff, ↓reduceIte, he] <;> try rfl) ?_)
    refine Zah ?_
    rw [<- hs1]
    exact ⟨rfl, ⟨by simp only [EV, Nat.reduceEqDiff, ↓reduceIte, he] <;> try rfl, by simp only [EV, Nat.reduceEqDiff, ↓reduceIte, he] <;> try rfl, by simp only [EV, Nat.reduceEqDiff, ↓reduceIte, he] <;> try rfl, by simp only [EV, Nat.reduceEqDiff, ↓reduceIte, he] <;> try rfl⟩, hE.trans hX5, hv.ext hX5⟩
   ·clear he e hE hv
    rintro e υ ⟨he, hE, hv⟩
    first | refine Zaa ?_ | refine Zad ?_ | (refine Zac ?_; refine Zaa ?_) | (refine Zac ?_; refine Zac ?_; refine Zaa ?_)
    refine Zab (Zai rfl (by simp only [EV, Nat.reduceEqDiff, ↓reduceIte, he] <;> try rfl) ?_)
    refine Zab ?_
    refine Zd4 i 1 (by simp only [EV, Nat.reduceEqDiff, ↓reduceIte, he] <;> try rfl) (by simp only [EV, Nat.reduceEqDiff, ↓reduceIte, he] <;> try rfl) (by omega) ?_
    refine Zab (Zai rfl (by simp only [EV, Nat.reduceEqDiff, ↓reduceIte, he] <;> try rfl) ?_)
    refine Zah ?_
    show ∃ n', n' < _ /\ _
    exact ⟨_, (by omega : ns.length - (i + 1) < ns.length - i), i + 1, rfl, hlt, ⟨by simp only [EV, Nat.reduceEqDiff, ↓reduceIte, he] <;> try rfl, by simp only [EV, Nat.reduceEqDiff, ↓reduceIte, he] <;> try rfl, by simp only [EV, Nat.reduceEqDiff, ↓reduceIte, he] <;> try rfl, by simp only [EV, Nat.reduceEqDiff, ↓reduceIte, he] <;> try rfl⟩, hE, hv⟩
  ·have hke : i = ns.length := by have := of_decide_eq_false ht; omega
   refine ZdZ ?_
   refine ⟨rfl, ?_, hE⟩
   have h3 := he.2.1
   rw [hke, hlen, List.take_length, ZiD (Zdb fs)] at h3
   exact h3
 clear he e hv
 rintro e υ ⟨he, hE⟩
 first | refine Zaa ?_ | refine Zad ?_ | (refine Zac ?_; refine Zaa ?_) | (refine Zac ?_; refine Zac ?_; refine Zaa ?_)
 refine Zab (Zai rfl (by simp only [EV, Nat.reduceEqDiff, ↓reduceIte, he] <;> try rfl) ?_)
 refine Zab (Zai rfl (by simp only [EV, Nat.reduceEqDiff, ↓reduceIte, he] <;> try rfl) ?_)
 refine Zah ?_
 refine ZaW ?_
 show ∃ r, Zan _ _ _ _ r /\ _
 exact ⟨_, ZaD rfl (by simp only [EV, Nat.reduceEqDiff, ↓reduceIte, he] <;> try rfl), hK υ hE⟩
end
end Go.Proofs.Ytinpiaibhjmfaaa
namespace Go.Proofs.Ytinpiaibhjmfaaa
open Go.RowKit
set_option maxRecDepth 100000
set_option linter.unusedVariables false
set_option linter.unusedSimpArgs false
def Zhd (x n : Int) : Nat := if x.tmod n < 0 then (x.tmod n + n).toNat else (x.tmod n).toNat
theorem ZnE (x : Int) {n : Int} (h1 : 1 <= n) (h2 : n <= 1000000000) : Zc2 x n = some ((Zhd x n : Int), ()) /\ (Zhd x n : Int) < n := by
 unfold Zc2 Zhd
 have ha : x.tmod n < n := Int.tmod_lt_of_pos x (by omega)
 have hb : -n < x.tmod n := by
  have := Int.lt_tmod_of_pos x (show 0 < n by omega)
  omega
 by_cases hn : x.tmod n < 0
 ·rw [if_pos hn]
  refine ⟨Zff (dF (by omega)) (Zvr (by omega) (ZeG (dT hn) ?_)), by omega⟩
  rw [w64 (by omega), show (((x.tmod n + n).toNat : Nat) : Int) = x.tmod n + n from by omega]
 ·rw [if_neg hn]
  refine ⟨Zff (dF (by omega)) (Zvr (by omega) (Zff (dF hn) ?_)), by omega⟩
  rw [show (((x.tmod n).toNat : Nat) : Int) = x.tmod n from by omega]
theorem Zms {σ : St} (x : Int) {n : Int} (h1 : 1 <= n) (h2 : n <= 1000000000) (K : AV -> St -> Prop) (hK : ∀ τ, Ext σ τ -> K (vI (Zhd x n)) τ) : Zau Try.prog 17 [.raw (.int .i64 x), .raw (.int .i64 n)] σ K :=
 Zfb (ZfE.ok (x, n, ()) () ((Zhd x n : Int), ()) (ZnE x h1 h2).1) (.cons (Zap.2 rfl) (.cons (Zap.2 rfl) .none)) (fun N ρ a h => Zap.1 h) _ hK
theorem Zdj : Zbo Try.prog 28 = some [(0, some 1, some false), (1, some 1, some false), (2, some 1, some false), (3, some 1, some false), (4, some 1, some false)] := by kernel_rfl
theorem Zko : Zc4 Try.prog 26 = some false := by kernel_rfl
theorem Zkp : Zax Try.prog 26 = some 1 := by kernel_rfl
theorem ZsX : Zc4 Try.prog 22 = some false := by kernel_rfl
theorem ZsY : Zax Try.prog 22 = some 1 := by kernel_rfl
theorem Zqh : Zc4 Try.prog 28 = some true := by kernel_rfl
def Zfn (nm : List UInt8) (ns : List (List UInt8)) : List UInt8 := match ns with
 | [] => nm
 | n :: _ => n
abbrev Zga (kd : Int) (nm : List UInt8) (vN : AV) (n : Int) (vP : AV) : List AV := [.raw (.int .i64 kd), .raw (sV nm), vN, .raw (.int .i64 n), vP]
section
variable {σ : St} {bb mb : Nat} {S : Nat -> Prop} {fs : List Fl} {pcs : List (Nat × Nat)} {size : Int} {pv : AV} {K : AV -> St -> Prop} {M B : Nat}
theorem Zrt {kd n : Int} {nm : List UInt8} {vN vP : AV} {ns : List (List UInt8)} (hN : ZeP σ vN ns) (h1 : vN.one = true /\ vP.one = true) (hK : ∀ τ, Ext σ τ -> K (.raw (sV (Zfn nm ns))) τ) : Zau Try.prog 46 [.agg (Zga kd nm vN n vP)] σ K := by
 refine ZaA ZaL Try.func46 rfl rfl rfl (Nat.le_of_ble_eq_true rfl) ?_
 refine ZdU 0 (v0 := .agg (Zga kd nm vN n vP)) rfl ?_
 intro e he
 first | refine Zaa ?_ | refine Zad ?_ | (refine Zac ?_; refine Zaa ?_) | (refine Zac ?_; refine Zac ?_; refine Zaa ?_)
 refine Zab ?_
 refine ZfU (cs := Zga kd nm vN n vP) (v := .agg (Zga kd nm vN n vP)) (by simp only [EV, Nat.reduceEqDiff, ↓reduceIte, he] <;> try rfl) (by simp [Zga, Zb7, AV.one, h1]) fun b υ hn hu hb hub hX => ?_
 refine Zab (Zai rfl (by simp only [EV, Nat.reduceEqDiff, ↓reduceIte, he] <;> try rfl) ?_)
 refine Zah ?_
 apply ZdU 1
 ·simp only [EV, Nat.reduceEqDiff, ↓reduceIte, he] <;> try rfl
 clear he e
 intro e he
 first | refine Zaa ?_ | refine Zad ?_ | (refine Zac ?_; refine Zaa ?_) | (refine Zac ?_; refine Zac ?_; refine Zaa ?_)
 refine Zab ?_
 refine Zae (b := b) (o := 0) (by simp only [EV, Nat.reduceEqDiff, ↓reduceIte, he] <;> try rfl) Zdj rfl ?_
 refine Zab ?_
 refine Zar (b := b) (o := 0 + 2) (r := vN) (by simp only [EV, Nat.reduceEqDiff, ↓reduceIte, he] <;> try rfl) hb Zko Zkp rfl ?_
 obtain ⟨A, c, hv⟩ := hN.val
 refine Zab ?_
 refine Zpr (n := ns.length) (c := c) (A := A) (by simp only [EV, Nat.reduceEqDiff, ↓reduceIte, he] <;> try rfl) hv rfl Zfd ?_
 refine Zab ?_
 refine ZeM (k := .i64) (a := (ns.length : Int)) (b := 0) (by simp only [EV, Nat.reduceEqDiff, ↓reduceIte, he] <;> try rfl) (by simp only [EV, Nat.reduceEqDiff, ↓reduceIte, he] <;> try rfl) ?_
 refine Zah ?_
 apply ZcW 1 6
 ·simp only [EV, Nat.reduceEqDiff, ↓reduceIte, he] <;> try rfl
 ·simp only [EV, Nat.reduceEqDiff, ↓reduceIte, he] <;> try rfl
 clear he e
 intro e he
 refine ZaX (t := decide ((ns.length : Int) = 0)) (by simp only [EV, Nat.reduceEqDiff, ↓reduceIte, he] <;> try rfl) (fun ht => ?_) (fun ht => ?_)
 ·have ht := of_decide_eq_true ht
  have : ns = [] := List.eq_nil_of_length_eq_zero (by omega)
  subst this
  first | refine Zaa ?_ | refine Zad ?_ | (refine Zac ?_; refine Zaa ?_) | (refine Zac ?_; refine Zac ?_; refine Zaa ?_)
  refine Zab ?_
  refine Zae (b := b) (o := 0) (by simp only [EV, Nat.reduceEqDiff, ↓reduceIte, he] <;> try rfl) Zdj rfl ?_
  refine Zab ?_
  refine Zar (b := b) (o := 0 + 1) (r := .raw (sV nm)) (by simp only [EV, Nat.reduceEqDiff, ↓reduceIte, he] <;> try rfl) hb ZdO ZcR rfl ?_
  refine Zab (Zai rfl (by simp only [EV, Nat.reduceEqDiff, ↓reduceIte, he] <;> try rfl) ?_)
  refine Zah ?_
  refine ZhV ?_
  show ∃ r, Zan _ _ _ _ r /\ _
  exact ⟨_, ZaD rfl (by simp only [EV, Nat.reduceEqDiff, ↓reduceIte, he] <;> try rfl), hK υ hX⟩
 ·have ht := of_decide_eq_false ht
  have h0 : 0 < ns.length := by omega
  refine Zbb ?_
  first | refine Zaa ?_ | refine Zad ?_ | (refine Zac ?_; refine Zaa ?_) | (refine Zac ?_; refine Zac ?_; refine Zaa ?_)
  refine Zab ?_
  refine Zae (b := b) (o := 0) (by simp only [EV, Nat.reduceEqDiff, ↓reduceIte, he] <;> try rfl) Zdj rfl ?_
  refine Zab ?_
  refine Zar (b := b) (o := 0 + 2) (r := vN) (by simp only [EV, Nat.reduceEqDiff, ↓reduceIte, he] <;> try rfl) hb Zko Zkp rfl ?_
  refine Zli (v := vN) (i := 0) (hN.but hX.but fun _ _ => id) h0 (by simp only [EV, Nat.reduceEqDiff, ↓reduceIte, he] <;> try rfl) (by simp only [EV, Nat.reduceEqDiff, ↓reduceIte, he] <;> try rfl) fun u => ?_
  refine Zab (Zai rfl (by simp only [EV, Nat.reduceEqDiff, ↓reduceIte, he] <;> try rfl) ?_)
  refine Zah ?_
  refine ZaW ?_
  have e : Zfn nm ns = ns[0] := by
   cases ns with
   | nil => exact absurd h0 (Nat.lt_irrefl 0)
   | cons a l => rfl
  rw [e] at hK
  show ∃ r, Zan _ _ _ _ r /\ _
  exact ⟨_, ZaD rfl (by simp only [EV, Nat.reduceEqDiff, ↓reduceIte, he] <;> try rfl), hK υ hX⟩
inductive Zkq (size : Int) (nm : List UInt8) (ns : List (List UInt8)) (n : Int) (d : List UInt8) (fs : List Fl) (pcs : List (Nat × Nat)) : Nat -> List Fl -> List (Nat × Nat) -> Nat -> Prop
 | bad {i : Nat} : i < 2 -> ¬ (nm ≠ [] /\ nm.length <= 40) -> Zkq size nm ns n d fs pcs i fs pcs 2
 | full {i : Nat} : i < 2 -> (nm ≠ [] /\ nm.length <= 40) -> ¬ (size < 1 \/ ((d.length + sumD fs : Nat) : Int) <= size) -> Zkq size nm ns n d fs pcs i fs pcs 8
 | app {i : Nat} {fs' pcs'} : i < 2 -> (nm ≠ [] /\ nm.length <= 40) -> (size < 1 \/ ((d.length + sumD fs : Nat) : Int) <= size) -> ZtU fs pcs nm d fs' pcs' -> Zkq size nm ns n d fs pcs i fs' pcs' 0
 | sync : Zkq size nm ns n d fs pcs 2 fs (ZeQ fs ns pcs).1 (ZeQ fs ns pcs).2
 | cut6 : (∀ f ∈ fs, f.nm ≠ nm) -> Zkq size nm ns n d fs pcs 3 fs pcs 6
 | cut2 {f0 : Fl} : f0 ∈ fs -> f0.nm = nm -> (n < 0 \/ (f0.d.length : Int) < n) -> Zkq size nm ns n d fs pcs 3 fs pcs 2
 | cut {f0 : Fl} {v' : AV} : f0 ∈ fs -> f0.nm = nm -> 0 <= n -> n <= (f0.d.length : Int) -> Zkq size nm ns n d fs pcs 3 (fs.map (Zcd f0.b v' (f0.d.take n.toNat))) ((shr f0.b (f0.d.length - n.toNat) pcs).filter fun p => !decide (p.2 = 0)) 0
 | ren2 : (∃ f ∈ fs, f.nm = nm) -> ¬ (Zfn nm ns ≠ [] /\ (Zfn nm ns).length <= 40) -> Zkq size nm ns n d fs pcs 4 fs pcs 2
 | ren6 : (∀ f ∈ fs, f.nm ≠ nm) -> Zkq size nm ns n d fs pcs 4 fs pcs 6
 | rens {f0 : Fl} : f0 ∈ fs -> f0.nm = nm -> nm = Zfn nm ns -> Zkq size nm ns n d fs pcs 4 fs pcs 0
 | ren {f0 : Fl} : f0 ∈ fs -> f0.nm = nm -> nm ≠ Zfn nm ns -> (Zfn nm ns ≠ [] /\ (Zfn nm ns).length <= 40) -> Zkq size nm ns n d fs pcs 4 (rnF fs f0 (Zfn nm ns)) (rnP fs pcs (Zfn nm ns)) 0
 | rem : Zkq size nm ns n d fs pcs 5 (Zjm ns fs pcs).1 (Zjm ns fs pcs).2.1 (Zjm ns fs pcs).2.2
 | crash {fs'} : dat fs' = ZbY ((ZbG pcs : Int) - max n 0).toNat (dat fs) pcs.reverse -> Zkq size nm ns n d fs pcs 6 fs' [] 0
 | none {i : Nat} : 7 <= i -> Zkq size nm ns n d fs pcs i fs pcs 0
theorem Zt0 {kd n : Int} {nm d : List UInt8} {vN vP : AV} {ns : List (List UInt8)} (I : Inv σ bb mb size S fs pcs pv M B) (hB : B + d.length <= 100000000) (hM : M <= 10000000) (hn : -9223372036854775808 <= n /\ n <= 9223372036854775807)
 (hN : ZeP σ vN ns) (hNS : ∀ c, hbk vN = some c -> ¬ S c) (hnl : ns.length <= 1000000000) (h1 : vN.one = true /\ vP.one = true) (h1b : Zb7 vN = true /\ Zb7 vP = true)
 (hcat : ∀ τ0, Ext σ τ0 -> ∀ K' : AV -> St -> Prop, (∀ v τ, Hd τ 5 1 v d.length (bys d) -> Ext τ0 τ -> (∀ b, hbk v = some b -> Zde τ0 b) -> K' v τ) -> Zau Try.prog 36 [vP] τ0 K')
 (hK : ∀ τ S' fs' pcs' pv' a, Inv τ bb mb size S' fs' pcs' pv' (M + 1) (B + d.length) -> But S σ τ -> (∀ c, S c -> S' c) -> (∀ c, S' c -> S c \/ Zde σ c) -> Zkq size nm ns n d fs pcs (Zhd kd 8) fs' pcs' a -> K (vI a) τ) : Zau Try.prog 22 [ptr bb 0, .agg (Zga kd nm vN n vP)] σ K := by
 refine ZaA ZaL Try.func22 rfl rfl rfl (Nat.le_of_ble_eq_true rfl) ?_
 refine ZcW 0 1 (v0 := ptr bb 0) (v1 := .agg (Zga kd nm vN n vP)) rfl rfl ?_
 intro e he
 first | refine Zaa ?_ | refine Zad ?_ | (refine Zac ?_; refine Zaa ?_) | (refine Zac ?_; refine Zac ?_; refine Zaa ?_)
 refine Zab ?_
 refine ZfU (cs := Zga kd nm vN n vP) (v := .agg (Zga kd nm vN n vP)) (by simp only [EV, Nat.reduceEqDiff, ↓reduceIte, he] <;> try rfl) (by simp [Zga, Zb7, AV.one, h1]) fun b3 σ1 hn3 hu3 hb3 hub3 hX1 => ?_
 refine Zab (Zai rfl (by simp only [EV, Nat.reduceEqDiff, ↓reduceIte, he] <;> try rfl) ?_)
 refine Zah ?_
 apply ZcW 0 3
 ·simp only [EV, Nat.reduceEqDiff, ↓reduceIte, he] <;> try rfl
 ·simp only [EV, Nat.reduceEqDiff, ↓reduceIte, he] <;> try rfl
 clear he e
 intro e he
 first | refine Zaa ?_ | refine Zad ?_ | (refine Zac ?_; refine Zaa ?_) | (refine Zac ?_; refine Zac ?_; refine Zaa ?_)
 refine Zab ?_
 refine Zae (b := b3) (o := 0) (by simp only [EV, Nat.reduceEqDiff, ↓reduceIte, he] <;> try rfl) Zdj rfl ?_
 refine Zab ?_
 refine Zar (b := b3) (o := 0 + 0) (r := .raw (.int .i64 kd)) (by simp only [EV, Nat.reduceEqDiff, ↓reduceIte, he] <;> try rfl) hb3 Zek Zd5 rfl ?_
 refine Zab ?_
 refine Zas (vs := [.raw (.int .i64 kd), .raw (.int .i64 8)]) (by simp only [List.map_cons, List.map_nil, EV, Nat.reduceEqDiff, ↓reduceIte, he] <;> try rfl) ?_
 refine Zms kd (by decide) (by decide) _ fun σ2 hX2 => ?_
 refine Zah ?_
 apply ZcX 0 3 7
 ·simp only [EV, Nat.reduceEqDiff, ↓reduceIte, he] <;> try rfl
 ·simp only [EV, Nat.reduceEqDiff, ↓reduceIte, he] <;> try rfl
 ·simp only [EV, Nat.reduceEqDiff, ↓reduceIte, he] <;> try rfl
 clear he e
 intro e he
 have hE := hX1.trans hX2
 have I2 := I.ext hE
 have hb := hX2.keep _ _ hb3
 have hN2 : ZeP σ2 vN ns := hN.but hE.but fun _ _ => id
 have hp8 : Zhd kd 8 < 8 := by
  have := (ZnE kd (n := 8) (by decide) (by decide)).2
  omega
 have hin : ∀ τ S' fs' pcs' pv' a, Inv τ bb mb size S' fs' pcs' pv' (M + 1) (B + d.length) -> But S σ2 τ -> (∀ c, S c -> S' c) -> (∀ c, S' c -> S c \/ Zde σ2 c) -> Zkq size nm ns n d fs pcs (Zhd kd 8) fs' pcs' a -> K (vI a) τ := fun τ S' fs' pcs' pv' a q1 q2 q3 q4 q5 => hK τ S' fs' pcs' pv' a q1 (hE.but.trans q2) q3 (fun c hc => (q4 c hc).imp id fun q => q.of hE) q5
 have hsame : ∀ τ a, Ext σ2 τ -> Zkq size nm ns n d fs pcs (Zhd kd 8) fs pcs a -> K (vI a) τ := fun τ a hX q => hin τ S fs pcs pv a ((I2.ext hX).more (Nat.le_succ _) (Nat.le_add_right _ _)) hX.but (fun c hc => hc) (fun c hc => .inl hc) q
 have hsub : ∀ τ fs' pcs' pv' a, Inv τ bb mb size S fs' pcs' pv' M B -> But S σ2 τ -> Zkq size nm ns n d fs pcs (Zhd kd 8) fs' pcs' a -> K (vI a) τ := fun τ fs' pcs' pv' a q1 q2 q3 => hin τ S fs' pcs' pv' a (q1.more (Nat.le_succ _) (Nat.le_add_right _ _)) q2 (fun c hc => hc) (fun c hc => .inl hc) q3
 have hfl := I2.file (by omega)
 have hfew := I2.few
 have hsum := I2.sum
 clear hX1 hX2 hb3 hub3 hn3 hu3
 generalize hi : Zhd kd 8 = i at he hp8 hin hsame hsub
 have hlast : ∀ (e : Env) τ fs' pcs' pv', Inv τ bb mb size S fs' pcs' pv' M B -> But S σ2 τ -> Zkq size nm ns n d fs pcs i fs' pcs' 0 -> K (vI 0) τ := fun e τ fs' pcs' pv' q1 q2 q3 => hsub τ fs' pcs' pv' 0 q1 q2 q3
 refine ZdD ?_
 ·skip
  first | refine Zaa ?_ | refine Zad ?_ | (refine Zac ?_; refine Zaa ?_) | (refine Zac ?_; refine Zac ?_; refine Zaa ?_)
  refine Zab ?_
  refine ZeM (k := .i64) (a := (i : Int)) (b := 0) (by simp only [EV, Nat.reduceEqDiff, ↓reduceIte, he] <;> try rfl) (by simp only [EV, Nat.reduceEqDiff, ↓reduceIte, he] <;> try rfl) ?_
  refine Zab (Zai rfl (by simp only [EV, Nat.reduceEqDiff, ↓reduceIte, he] <;> try rfl) ?_)
  refine Zah ?_
  apply Zcm 0 3 7 8
  ·simp only [EV, Nat.reduceEqDiff, ↓reduceIte, he] <;> try rfl
  ·simp only [EV, Nat.reduceEqDiff, ↓reduceIte, he] <;> try rfl
  ·simp only [EV, Nat.reduceEqDiff, ↓reduceIte, he] <;> try rfl
  ·simp only [EV, Nat.reduceEqDiff, ↓reduceIte, he] <;> try rfl
  clear he e
  intro e he
  refine Zcq (fun env υ => (env 0 = ptr bb 0 /\ env 3 = ptr b3 0 /\ env 7 = vI i /\ env 8 = vT (decide (i < 2))) /\ υ = σ2) ?_ ?_
  ·refine ZbQ (t := decide ((i : Int) = 0)) (by simp only [EV, Nat.reduceEqDiff, ↓reduceIte, he] <;> try rfl) (fun ht => ?_) (fun ht => ?_)
   ·have ht := of_decide_eq_true ht
    refine ZdC ?_
    refine ⟨rfl, ⟨by simp only [EV, Nat.reduceEqDiff, ↓reduceIte, he] <;> try rfl, by simp only [EV, Nat.reduceEqDiff, ↓reduceIte, he] <;> try rfl, by simp only [EV, Nat.reduceEqDiff, ↓reduceIte, he] <;> try rfl, ?_⟩, rfl⟩
    rw [decide_eq_true (by omega : i < 2)]
    have h8 := he.2.2.2
    rw [decide_eq_true ht] at h8
    exact h8
   ·have ht := of_decide_eq_false ht
    first | refine Zaa ?_ | refine Zad ?_ | (refine Zac ?_; refine Zaa ?_) | (refine Zac ?_; refine Zac ?_; refine Zaa ?_)
    refine Zab ?_
    refine ZeM (k := .i64) (a := (i : Int)) (b := 1) (by simp only [EV, Nat.reduceEqDiff, ↓reduceIte, he] <;> try rfl) (by simp only [EV, Nat.reduceEqDiff, ↓reduceIte, he] <;> try rfl) ?_
    refine Zab (Zai rfl (by simp only [EV, Nat.reduceEqDiff, ↓reduceIte, he] <;> try rfl) ?_)
    refine Zah ?_
    refine ⟨rfl, ⟨by simp only [EV, Nat.reduceEqDiff, ↓reduceIte, he] <;> try rfl, by simp only [EV, Nat.reduceEqDiff, ↓reduceIte, he] <;> try rfl, by simp only [EV, Nat.reduceEqDiff, ↓reduceIte, he] <;> try rfl, ?_⟩, rfl⟩
    rw [show decide (i < 2) = decide ((i : Int) = 1) by congr 1; exact propext (by omega)]
    simp only [EV, Nat.reduceEqDiff, ↓reduceIte, he] <;> try rfl
  clear he e
  rintro e _ ⟨he, rfl⟩
  refine ZbQ (t := decide (i < 2)) (by simp only [EV, Nat.reduceEqDiff, ↓reduceIte, he] <;> try rfl) (fun h2 => ?_) (fun h2 => ?_)
  ·have h2 := of_decide_eq_true h2
   first | refine Zaa ?_ | refine Zad ?_ | (refine Zac ?_; refine Zaa ?_) | (refine Zac ?_; refine Zac ?_; refine Zaa ?_)
   refine Zab (Zai rfl (by simp only [EV, Nat.reduceEqDiff, ↓reduceIte, he] <;> try rfl) ?_)
   refine Zab ?_
   refine Zae (b := b3) (o := 0) (by simp only [EV, Nat.reduceEqDiff, ↓reduceIte, he] <;> try rfl) Zdj rfl ?_
   refine Zab ?_
   refine Zar (b := b3) (o := 0 + 1) (r := .raw (sV nm)) (by simp only [EV, Nat.reduceEqDiff, ↓reduceIte, he] <;> try rfl) hb ZdO ZcR rfl ?_
   refine Zab ?_
   refine Zae (b := b3) (o := 0) (by simp only [EV, Nat.reduceEqDiff, ↓reduceIte, he] <;> try rfl) Zdj rfl ?_
   refine Zab ?_
   refine Zar (b := b3) (o := 0 + 4) (r := vP) (by simp only [EV, Nat.reduceEqDiff, ↓reduceIte, he] <;> try rfl) hb ZsX ZsY rfl ?_
   refine Zab ?_
   refine Zas (vs := [ptr bb 0, .raw (sV nm), vP]) (by simp only [List.map_cons, List.map_nil, EV, Nat.reduceEqDiff, ↓reduceIte, he] <;> try rfl) ?_
   have hcat2 := fun τ0 (hX : Ext _ τ0) => hcat τ0 (hE.trans hX)
   refine Zfi I2.disk I2.used (d := d) hcat2 (by omega) (by omega) (fun q τ hX => ?_) (fun q1 q τ hX => ?_) fun q1 q2 τ S' fs' pcs' pv' d1 d2 d3 d4 d5 d6 => ?_
   ·refine Zab (Zai rfl (by simp only [EV, Nat.reduceEqDiff, ↓reduceIte, he] <;> try rfl) ?_)
    refine Zah ?_
    refine ZaW ?_
    show ∃ r, Zan _ _ _ _ r /\ _
    exact ⟨_, ZaD rfl (by simp only [EV, Nat.reduceEqDiff, ↓reduceIte, he] <;> try rfl), hsame τ 2 hX (.bad h2 q)⟩
   ·refine Zab (Zai rfl (by simp only [EV, Nat.reduceEqDiff, ↓reduceIte, he] <;> try rfl) ?_)
    refine Zah ?_
    refine ZaW ?_
    show ∃ r, Zan _ _ _ _ r /\ _
    exact ⟨_, ZaD rfl (by simp only [EV, Nat.reduceEqDiff, ↓reduceIte, he] <;> try rfl), hsame τ 8 hX (.full h2 q1 q)⟩
   ·refine Zab (Zai rfl (by simp only [EV, Nat.reduceEqDiff, ↓reduceIte, he] <;> try rfl) ?_)
    refine Zah ?_
    refine ZaW ?_
    show ∃ r, Zan _ _ _ _ r /\ _
    exact ⟨_, ZaD rfl (by simp only [EV, Nat.reduceEqDiff, ↓reduceIte, he] <;> try rfl), hin τ S' fs' pcs' pv' 0 (I2.app d1 d5 d6 q1.2 q2) d2 d3 d4 (.app h2 q1 q2 d6)⟩
  have h2 := of_decide_eq_false h2
  first | refine Zaa ?_ | refine Zad ?_ | (refine Zac ?_; refine Zaa ?_) | (refine Zac ?_; refine Zac ?_; refine Zaa ?_)
  refine Zab ?_
  refine ZeM (k := .i64) (a := (i : Int)) (b := 2) (by simp only [EV, Nat.reduceEqDiff, ↓reduceIte, he] <;> try rfl) (by simp only [EV, Nat.reduceEqDiff, ↓reduceIte, he] <;> try rfl) ?_
  refine Zab (Zai rfl (by simp only [EV, Nat.reduceEqDiff, ↓reduceIte, he] <;> try rfl) ?_)
  refine Zah ?_
  apply Zcm 0 3 7 17
  ·simp only [EV, Nat.reduceEqDiff, ↓reduceIte, he] <;> try rfl
  ·simp only [EV, Nat.reduceEqDiff, ↓reduceIte, he] <;> try rfl
  ·simp only [EV, Nat.reduceEqDiff, ↓reduceIte, he] <;> try rfl
  ·simp only [EV, Nat.reduceEqDiff, ↓reduceIte, he] <;> try rfl
  clear he e
  intro e he
  refine ZbQ (t := decide ((i : Int) = 2)) (by simp only [EV, Nat.reduceEqDiff, ↓reduceIte, he] <;> try rfl) (fun h3 => ?_) (fun h3 => ?_)
  ·have h3 := of_decide_eq_true h3
   obtain rfl : i = 2 := by omega
   first | refine Zaa ?_ | refine Zad ?_ | (refine Zac ?_; refine Zaa ?_) | (refine Zac ?_; refine Zac ?_; refine Zaa ?_)
   refine Zab (Zai rfl (by simp only [EV, Nat.reduceEqDiff, ↓reduceIte, he] <;> try rfl) ?_)
   refine Zab ?_
   refine Zae (b := b3) (o := 0) (by simp only [EV, Nat.reduceEqDiff, ↓reduceIte, he] <;> try rfl) Zdj rfl ?_
   refine Zab ?_
   refine Zar (b := b3) (o := 0 + 2) (r := vN) (by simp only [EV, Nat.reduceEqDiff, ↓reduceIte, he] <;> try rfl) hb Zko Zkp rfl ?_
   refine Zab ?_
   refine Zas (vs := [ptr bb 0, vN]) (by simp only [List.map_cons, List.map_nil, EV, Nat.reduceEqDiff, ↓reduceIte, he] <;> try rfl) ?_
   refine ZpX I2.disk I2.used (by omega) hN2 hNS hnl fun τ pv' d1 d2 => ?_
   refine Zab (Zai rfl (by simp only [EV, Nat.reduceEqDiff, ↓reduceIte, he] <;> try rfl) ?_)
   refine Zah ?_
   refine ZaW ?_
   show ∃ r, Zan _ _ _ _ r /\ _
   exact ⟨_, ZaD rfl (by simp only [EV, Nat.reduceEqDiff, ↓reduceIte, he] <;> try rfl), hsub τ fs _ pv' _ (I2.sub d1 d2 (List.Sublist.refl _) (Zls fs ns pcs)) d2 .sync⟩
  have h3 := of_decide_eq_false h3
  first | refine Zaa ?_ | refine Zad ?_ | (refine Zac ?_; refine Zaa ?_) | (refine Zac ?_; refine Zac ?_; refine Zaa ?_)
  refine Zab ?_
  refine ZeM (k := .i64) (a := (i : Int)) (b := 3) (by simp only [EV, Nat.reduceEqDiff, ↓reduceIte, he] <;> try rfl) (by simp only [EV, Nat.reduceEqDiff, ↓reduceIte, he] <;> try rfl) ?_
  refine Zab (Zai rfl (by simp only [EV, Nat.reduceEqDiff, ↓reduceIte, he] <;> try rfl) ?_)
  refine Zah ?_
  apply Zcm 0 3 7 23
  ·simp only [EV, Nat.reduceEqDiff, ↓reduceIte, he] <;> try rfl
  ·simp only [EV, Nat.reduceEqDiff, ↓reduceIte, he] <;> try rfl
  ·simp only [EV, Nat.reduceEqDiff, ↓reduceIte, he] <;> try rfl
  ·simp only [EV, Nat.reduceEqDiff, ↓reduceIte, he] <;> try rfl
  clear he e
  intro e he
  refine ZbQ (t := decide ((i : Int) = 3)) (by simp only [EV, Nat.reduceEqDiff, ↓reduceIte, he] <;> try rfl) (fun h4 => ?_) (fun h4 => ?_)
  ·have h4 := of_decide_eq_true h4
   obtain rfl : i = 3 := by omega
   first | refine Zaa ?_ | refine Zad ?_ | (refine Zac ?_; refine Zaa ?_) | (refine Zac ?_; refine Zac ?_; refine Zaa ?_)
   refine Zab (Zai rfl (by simp only [EV, Nat.reduceEqDiff, ↓reduceIte, he] <;> try rfl) ?_)
   refine Zab ?_
   refine Zae (b := b3) (o := 0) (by simp only [EV, Nat.reduceEqDiff, ↓reduceIte, he] <;> try rfl) Zdj rfl ?_
   refine Zab ?_
   refine Zar (b := b3) (o := 0 + 1) (r := .raw (sV nm)) (by simp only [EV, Nat.reduceEqDiff, ↓reduceIte, he] <;> try rfl) hb ZdO ZcR rfl ?_
   refine Zab ?_
   refine Zae (b := b3) (o := 0) (by simp only [EV, Nat.reduceEqDiff, ↓reduceIte, he] <;> try rfl) Zdj rfl ?_
   refine Zab ?_
   refine Zar (b := b3) (o := 0 + 3) (r := .raw (.int .i64 n)) (by simp only [EV, Nat.reduceEqDiff, ↓reduceIte, he] <;> try rfl) hb Zek Zd5 rfl ?_
   refine Zab ?_
   refine Zas (vs := [ptr bb 0, .raw (sV nm), .raw (.int .i64 n)]) (by simp only [List.map_cons, List.map_nil, EV, Nat.reduceEqDiff, ↓reduceIte, he] <;> try rfl) ?_
   refine ZtX I2.disk I2.used (by omega) (I2.pc (by omega)) hfl (fun q τ hX => ?_) (fun f0 q1 q2 q3 τ hX => ?_) fun f0 q1 q2 q3 q4 τ v' pv' d1 d2 => ?_
   ·refine Zab (Zai rfl (by simp only [EV, Nat.reduceEqDiff, ↓reduceIte, he] <;> try rfl) ?_)
    refine Zah ?_
    refine ZaW ?_
    show ∃ r, Zan _ _ _ _ r /\ _
    exact ⟨_, ZaD rfl (by simp only [EV, Nat.reduceEqDiff, ↓reduceIte, he] <;> try rfl), hsame τ 6 hX (.cut6 q)⟩
   ·refine Zab (Zai rfl (by simp only [EV, Nat.reduceEqDiff, ↓reduceIte, he] <;> try rfl) ?_)
    refine Zah ?_
    refine ZaW ?_
    show ∃ r, Zan _ _ _ _ r /\ _
    exact ⟨_, ZaD rfl (by simp only [EV, Nat.reduceEqDiff, ↓reduceIte, he] <;> try rfl), hsame τ 2 hX (.cut2 q1 q2 q3)⟩
   ·refine Zab (Zai rfl (by simp only [EV, Nat.reduceEqDiff, ↓reduceIte, he] <;> try rfl) ?_)
    refine Zah ?_
    refine ZaW ?_
    show ∃ r, Zan _ _ _ _ r /\ _
    exact ⟨_, ZaD rfl (by simp only [EV, Nat.reduceEqDiff, ↓reduceIte, he] <;> try rfl), hsub τ _ _ pv' 0 (I2.cutI q1 (by omega) d1 d2) d2 (.cut q1 q2 q3 q4)⟩
  have h4 := of_decide_eq_false h4
  first | refine Zaa ?_ | refine Zad ?_ | (refine Zac ?_; refine Zaa ?_) | (refine Zac ?_; refine Zac ?_; refine Zaa ?_)
  refine Zab ?_
  refine ZeM (k := .i64) (a := (i : Int)) (b := 4) (by simp only [EV, Nat.reduceEqDiff, ↓reduceIte, he] <;> try rfl) (by simp only [EV, Nat.reduceEqDiff, ↓reduceIte, he] <;> try rfl) ?_
  refine Zab (Zai rfl (by simp only [EV, Nat.reduceEqDiff, ↓reduceIte, he] <;> try rfl) ?_)
  refine Zah ?_
  apply Zcm 0 3 7 31
  ·simp only [EV, Nat.reduceEqDiff, ↓reduceIte, he] <;> try rfl
  ·simp only [EV, Nat.reduceEqDiff, ↓reduceIte, he] <;> try rfl
  ·simp only [EV, Nat.reduceEqDiff, ↓reduceIte, he] <;> try rfl
  ·simp only [EV, Nat.reduceEqDiff, ↓reduceIte, he] <;> try rfl
  clear he e
  intro e he
  refine ZbQ (t := decide ((i : Int) = 4)) (by simp only [EV, Nat.reduceEqDiff, ↓reduceIte, he] <;> try rfl) (fun h5 => ?_) (fun h5 => ?_)
  ·have h5 := of_decide_eq_true h5
   obtain rfl : i = 4 := by omega
   refine ZgU ?_
   refine ⟨[0, 1, 2, 3, 4, 5, 6], [[], [], [1], [], [3], [0, 1, 2, 3, 4], [0, 1, 2, 3, 4, 5]], fun _ => True, [2], [4], [], by kernel_rfl, ?_⟩
   apply Zao
   case hi => simp only [HIX]; try rfl
   case hw => rfl
   case how => rfl
   refine Zai rfl (by simp only [EV, Nat.reduceEqDiff, ↓reduceIte, he] <;> try rfl) ?_
   refine ZaY ?_
   apply Zao
   case hi => simp only [HIX]; try rfl
   case hw => rfl
   case how => rfl
   refine Zae (b := b3) (o := 0) (by simp only [EV, Nat.reduceEqDiff, ↓reduceIte, he] <;> try rfl) Zdj rfl ?_
   refine ZaY ?_
   apply Zao
   case hi => simp only [HIX]; try rfl
   case hw => rfl
   case how => rfl
   refine Zar (b := b3) (o := 0 + 1) (r := .raw (sV nm)) (by simp only [EV, Nat.reduceEqDiff, ↓reduceIte, he] <;> try rfl) hb ZdO ZcR rfl ?_
   refine ZaY ?_
   apply Zao
   case hi => simp only [HIX]; try rfl
   case hw => rfl
   case how => rfl
   refine Zar (b := b3) (o := 0) (r := .agg (Zga kd nm vN n vP)) (by simp only [EV, Nat.reduceEqDiff, ↓reduceIte, he] <;> try rfl) hb Zqh Zmp rfl ?_
   refine ZaY ?_
   apply Zao
   case hi => simp only [HIX]; try rfl
   case hw => rfl
   case how => rfl
   refine Zas (vs := [.agg (Zga kd nm vN n vP)]) (by simp only [List.map_cons, List.map_nil, EV, Nat.reduceEqDiff, ↓reduceIte, he] <;> try rfl) ?_
   refine Zrt hN2 h1 fun τ1 hX1 => ?_
   refine ⟨fun _ => hX1, ?_⟩
   apply Zao
   case hi => simp only [HIX]; try rfl
   case hw => rfl
   case how => rfl
   refine Zas (vs := [ptr bb 0, .raw (sV nm), .raw (sV (Zfn nm ns))]) (by simp only [List.map_cons, List.map_nil, EV, Nat.reduceEqDiff, ↓reduceIte, he] <;> try rfl) ?_
   have I3 := I2.ext hX1
   refine ZtY I3.disk I3.used (by omega) (fun q1 q2 τ hX => ?_) (fun q τ hX => ?_) (fun f0 q1 q2 q3 τ hX => ?_) fun f0 q1 q2 q3 q4 τ pv' d1 d2 => ?_
   ·refine ⟨(fun hf => by cases hf), ?_⟩
    apply Zao
    case hi => simp only [HIX]; try rfl
    case hw => rfl
    case how => rfl
    refine Zai rfl (by simp only [EV, Nat.reduceEqDiff, ↓reduceIte, he] <;> try rfl) ?_
    refine ZaY ?_
    refine Zfa ?_
    refine ZaW ?_
    show ∃ r, Zan _ _ _ _ r /\ _
    exact ⟨_, ZaD rfl (by simp only [EV, Nat.reduceEqDiff, ↓reduceIte, he] <;> try rfl), hsame τ 2 (hX1.trans hX) (.ren2 q1 q2)⟩
   ·refine ⟨(fun hf => by cases hf), ?_⟩
    apply Zao
    case hi => simp only [HIX]; try rfl
    case hw => rfl
    case how => rfl
    refine Zai rfl (by simp only [EV, Nat.reduceEqDiff, ↓reduceIte, he] <;> try rfl) ?_
    refine ZaY ?_
    refine Zfa ?_
    refine ZaW ?_
    show ∃ r, Zan _ _ _ _ r /\ _
    exact ⟨_, ZaD rfl (by simp only [EV, Nat.reduceEqDiff, ↓reduceIte, he] <;> try rfl), hsame τ 6 (hX1.trans hX) (.ren6 q)⟩
   ·refine ⟨(fun hf => by cases hf), ?_⟩
    apply Zao
    case hi => simp only [HIX]; try rfl
    case hw => rfl
    case how => rfl
    refine Zai rfl (by simp only [EV, Nat.reduceEqDiff, ↓reduceIte, he] <;> try rfl) ?_
    refine ZaY ?_
    refine Zfa ?_
    refine ZaW ?_
    show ∃ r, Zan _ _ _ _ r /\ _
    exact ⟨_, ZaD rfl (by simp only [EV, Nat.reduceEqDiff, ↓reduceIte, he] <;> try rfl), hsame τ 0 (hX1.trans hX) (.rens q1 q2 q3)⟩
   ·refine ⟨(fun hf => by cases hf), ?_⟩
    apply Zao
    case hi => simp only [HIX]; try rfl
    case hw => rfl
    case how => rfl
    refine Zai rfl (by simp only [EV, Nat.reduceEqDiff, ↓reduceIte, he] <;> try rfl) ?_
    refine ZaY ?_
    refine Zfa ?_
    refine ZaW ?_
    show ∃ r, Zan _ _ _ _ r /\ _
    exact ⟨_, ZaD rfl (by simp only [EV, Nat.reduceEqDiff, ↓reduceIte, he] <;> try rfl), hsub τ _ _ pv' 0 (I3.renI q1 q4.2 (by rw [q2]; exact q3) d1 d2) (hX1.but.trans d2) (.ren q1 q2 q3 q4)⟩
  have h5 := of_decide_eq_false h5
  first | refine Zaa ?_ | refine Zad ?_ | (refine Zac ?_; refine Zaa ?_) | (refine Zac ?_; refine Zac ?_; refine Zaa ?_)
  refine Zab ?_
  refine ZeM (k := .i64) (a := (i : Int)) (b := 5) (by simp only [EV, Nat.reduceEqDiff, ↓reduceIte, he] <;> try rfl) (by simp only [EV, Nat.reduceEqDiff, ↓reduceIte, he] <;> try rfl) ?_
  refine Zab (Zai rfl (by simp only [EV, Nat.reduceEqDiff, ↓reduceIte, he] <;> try rfl) ?_)
  refine Zah ?_
  apply Zcm 0 3 7 39
  ·simp only [EV, Nat.reduceEqDiff, ↓reduceIte, he] <;> try rfl
  ·simp only [EV, Nat.reduceEqDiff, ↓reduceIte, he] <;> try rfl
  ·simp only [EV, Nat.reduceEqDiff, ↓reduceIte, he] <;> try rfl
  ·simp only [EV, Nat.reduceEqDiff, ↓reduceIte, he] <;> try rfl
  clear he e
  intro e he
  refine ZbQ (t := decide ((i : Int) = 5)) (by simp only [EV, Nat.reduceEqDiff, ↓reduceIte, he] <;> try rfl) (fun h6 => ?_) (fun h6 => ?_)
  ·have h6 := of_decide_eq_true h6
   obtain rfl : i = 5 := by omega
   first | refine Zaa ?_ | refine Zad ?_ | (refine Zac ?_; refine Zaa ?_) | (refine Zac ?_; refine Zac ?_; refine Zaa ?_)
   refine Zab (Zai rfl (by simp only [EV, Nat.reduceEqDiff, ↓reduceIte, he] <;> try rfl) ?_)
   refine Zab ?_
   refine Zae (b := b3) (o := 0) (by simp only [EV, Nat.reduceEqDiff, ↓reduceIte, he] <;> try rfl) Zdj rfl ?_
   refine Zab ?_
   refine Zar (b := b3) (o := 0 + 2) (r := vN) (by simp only [EV, Nat.reduceEqDiff, ↓reduceIte, he] <;> try rfl) hb Zko Zkp rfl ?_
   refine Zab ?_
   refine Zas (vs := [ptr bb 0, vN]) (by simp only [List.map_cons, List.map_nil, EV, Nat.reduceEqDiff, ↓reduceIte, he] <;> try rfl) ?_
   refine ZtW I2.disk (by omega) hN2 hNS hnl fun τ pv' d1 d2 => ?_
   refine Zab (Zai rfl (by simp only [EV, Nat.reduceEqDiff, ↓reduceIte, he] <;> try rfl) ?_)
   refine Zah ?_
   refine ZaW ?_
   show ∃ r, Zan _ _ _ _ r /\ _
   exact ⟨_, ZaD rfl (by simp only [EV, Nat.reduceEqDiff, ↓reduceIte, he] <;> try rfl), hsub τ _ _ pv' _ (I2.sub d1 d2 (Zkm ns fs pcs).1 (Zkm ns fs pcs).2) d2 .rem⟩
  have h6 := of_decide_eq_false h6
  first | refine Zaa ?_ | refine Zad ?_ | (refine Zac ?_; refine Zaa ?_) | (refine Zac ?_; refine Zac ?_; refine Zaa ?_)
  refine Zab ?_
  refine ZeM (k := .i64) (a := (i : Int)) (b := 6) (by simp only [EV, Nat.reduceEqDiff, ↓reduceIte, he] <;> try rfl) (by simp only [EV, Nat.reduceEqDiff, ↓reduceIte, he] <;> try rfl) ?_
  refine Zab (Zai rfl (by simp only [EV, Nat.reduceEqDiff, ↓reduceIte, he] <;> try rfl) ?_)
  refine Zah ?_
  apply Zcm 0 3 7 45
  ·simp only [EV, Nat.reduceEqDiff, ↓reduceIte, he] <;> try rfl
  ·simp only [EV, Nat.reduceEqDiff, ↓reduceIte, he] <;> try rfl
  ·simp only [EV, Nat.reduceEqDiff, ↓reduceIte, he] <;> try rfl
  ·simp only [EV, Nat.reduceEqDiff, ↓reduceIte, he] <;> try rfl
  clear he e
  intro e he
  refine ZbQ (t := decide ((i : Int) = 6)) (by simp only [EV, Nat.reduceEqDiff, ↓reduceIte, he] <;> try rfl) (fun h7 => ?_) (fun h7 => ?_)
  ·have h7 := of_decide_eq_true h7
   obtain rfl : i = 6 := by omega
   first | refine Zaa ?_ | refine Zad ?_ | (refine Zac ?_; refine Zaa ?_) | (refine Zac ?_; refine Zac ?_; refine Zaa ?_)
   refine Zab (Zai rfl (by simp only [EV, Nat.reduceEqDiff, ↓reduceIte, he] <;> try rfl) ?_)
   refine Zab ?_
   refine Zae (b := b3) (o := 0) (by simp only [EV, Nat.reduceEqDiff, ↓reduceIte, he] <;> try rfl) Zdj rfl ?_
   refine Zab ?_
   refine Zar (b := b3) (o := 0 + 3) (r := .raw (.int .i64 n)) (by simp only [EV, Nat.reduceEqDiff, ↓reduceIte, he] <;> try rfl) hb Zek Zd5 rfl ?_
   refine Zab ?_
   refine Zas (vs := [ptr bb 0, .raw (.int .i64 n)]) (by simp only [List.map_cons, List.map_nil, EV, Nat.reduceEqDiff, ↓reduceIte, he] <;> try rfl) ?_
   refine Zfx I2.disk (by omega) I2.wf (I2.pcs_ (by omega)) hfl hn fun τ fs' d1 d2 d3 => ?_
   refine Zah ?_
   show ZaI _ _ _ _ _ _
   first | refine Zaa ?_ | refine Zad ?_ | (refine Zac ?_; refine Zaa ?_) | (refine Zac ?_; refine Zac ?_; refine Zaa ?_)
   refine Zab (Zai rfl (by simp only [EV, Nat.reduceEqDiff, ↓reduceIte, he] <;> try rfl) ?_)
   refine Zah ?_
   refine ZaW ?_
   show ∃ r, Zan _ _ _ _ r /\ _
   exact ⟨_, ZaD rfl (by simp only [EV, Nat.reduceEqDiff, ↓reduceIte, he] <;> try rfl), hsub τ fs' [] _ 0 (I2.crashI d1 d2 d3) d3 (.crash d2)⟩
  have h7 := of_decide_eq_false h7
  refine ZdC ?_
  show ZaI _ _ _ _ _ _
  first | refine Zaa ?_ | refine Zad ?_ | (refine Zac ?_; refine Zaa ?_) | (refine Zac ?_; refine Zac ?_; refine Zaa ?_)
  refine Zab (Zai rfl (by simp only [EV, Nat.reduceEqDiff, ↓reduceIte, he] <;> try rfl) ?_)
  refine Zah ?_
  refine ZaW ?_
  show ∃ r, Zan _ _ _ _ r /\ _
  exact ⟨_, ZaD rfl (by simp only [EV, Nat.reduceEqDiff, ↓reduceIte, he] <;> try rfl), hsame _ 0 (.refl _) (.none (by omega))⟩
end
end Go.Proofs.Ytinpiaibhjmfaaa
namespace Go.Proofs.Ytinpiaibhjmfaaa
open Go.RowKit
set_option maxRecDepth 100000
set_option linter.unusedVariables false
set_option linter.unusedSimpArgs false
theorem Zqs {σ : St} {A N : Nat -> Prop} (h1 : ∀ c, A c -> σ.used c) (h2 : ∀ c, N c -> Zde σ c) : ∀ c, A c -> ¬ N c := fun c ha hn => (h2 c hn).2 (h1 c ha)
theorem Zjs {P : Program} {ops : Array Oper} {env : Env} {σ : St} {K : Env -> St -> Prop} {d : Option Nat} {ty t kt et : TypeId} {pos : String} {af : Array Edge} {as_ : Operand} {ts : Array TypeId} {g : Option (Nat × Bool)} {b : Nat} {es : List (Value × Value)} {l : List Oper}
 (hw : Region.wanted ⟨d, .call ⟨.builtin .len, #[as_], ts⟩, ty, pos, af, g⟩ (Zaq ops env) = true) (hx : ev env as_ = Zbv b) (hb : σ.blk b = some (.map es)) (ht : Zht es = 0) (hts : ts[0]? = some t) (t1 : P.underlying t = some (.map kt et))
 (h : Zb8 P ops l (env.put d (vI es.length)) σ K) : Zb8 P ops (⟨d, .call ⟨.builtin .len, #[as_], ts⟩, ty, pos, af, g⟩ :: l) env σ K := by
 refine .inr (.inr (.inr ⟨hw, fun ρ hρ w Z hH hV => ⟨vI es.length, σ, w, .inl ?_, h, hH, Zak _, .refl _ _⟩⟩))
 obtain ⟨_, arr, c', hh, harr, _⟩ := hH.mapAt hb ht
 have hlen : arr.size = es.length := by
  have := congrArg List.length harr
  simpa using this
 have hρ' := hρ
 simp [Op.operands, Call.operands, hx, Zbv] at hρ'
 simp [execOp, resolve, invoke, builtin, Builtin.len_, hρ', hts, run_underlying t1, Ze3 hh, hlen, goInt, vI]
theorem Zkr {α β : Type} {f : α -> β} : ∀ {l : List α}, l.Nodup -> (∀ x ∈ l, ∀ y ∈ l, f x = f y -> x = y) -> (l.map f).Nodup
 | [], _, _ => .nil
 | a :: l, h, hi => by
  rw [List.nodup_cons] at h
  rw [List.map_cons, List.nodup_cons]
  refine ⟨fun ha => ?_, Zkr h.2 fun x hx y hy => hi x (List.mem_cons_of_mem _ hx) y (List.mem_cons_of_mem _ hy)⟩
  obtain ⟨x, hx, e⟩ := List.mem_map.1 ha
  have := hi x (List.mem_cons_of_mem _ hx) a List.mem_cons_self e
  subst this
  exact h.1 hx
theorem Zjt {α : Type} {f : α -> Nat} : ∀ {m l : List α}, m.Nodup -> (∀ x ∈ m, x ∈ l) -> (m.map f).sum <= (l.map f).sum
 | [], _, _, _ => Nat.zero_le _
 | a :: m, l, hn, hs => by
  rw [List.nodup_cons] at hn
  obtain ⟨s, t, rfl⟩ := List.append_of_mem (hs a List.mem_cons_self)
  have := Zjt (f := f) (l := s ++ t) hn.2 fun x hx => by
   have h1 := hs x (List.mem_cons_of_mem _ hx)
   rcases List.mem_append.1 h1 with h1 | h1
   ·exact List.mem_append_left _ h1
   ·rcases List.mem_cons.1 h1 with rfl | h1
    ·exact absurd hx hn.1
    ·exact List.mem_append_right _ h1
  simp only [List.map_append, List.sum_append, List.map_cons, List.sum_cons] at this ⊢
  omega
theorem Zlw {α β : Type} {f : α -> β} : ∀ {l : List α}, (l.map f).Nodup -> ∀ x ∈ l, ∀ y ∈ l, f x = f y -> x = y
 | a :: l, hn, x, hx, y, hy, e => by
  rw [List.map_cons, List.nodup_cons] at hn
  rcases List.mem_cons.1 hx with e1 | h1 <;> rcases List.mem_cons.1 hy with e2 | h2
  ·rw [e1, e2]
  ·exact absurd (List.mem_map.2 ⟨y, h2, by rw [<- e, e1]⟩) hn.1
  ·exact absurd (List.mem_map.2 ⟨x, h1, by rw [e, e2]⟩) hn.1
  ·exact Zlw hn.2 x h1 y h2 e
structure RL (arr : Array MapEntry) (c m ib : Nat) (l : List Rw) (υ : St) (done : List Rw) (seen : Array Nat) (D : List MapEntry) : Prop where
 nn : (l.map (·.nm)).Nodup
 at_ : Zjv arr c (ZfF (ZfR l))
 came : Zrl arr seen D
 what : (D.map fun e : MapEntry => (e.key, e.val)) = done.map fun r => (sV r.nm, r.v.val)
 each : ∀ r ∈ done, r ∈ l
 iter : υ.blk ib = some (.map (Zku m c seen c))
 held : υ.blk m = some (.map (Zgd arr c))
section
variable {arr : Array MapEntry} {c m ib : Nat} {l : List Rw} {υ τ : St} {done : List Rw} {seen : Array Nat} {D : List MapEntry}
theorem ZiE (l : List Rw) : ZfF (ZfR l) = l.map fun r => (sV r.nm, r.v.val) := by
 unfold ZfF ZfR
 rw [List.map_map]
 rfl
theorem RL.but {U : Nat -> Prop} (h : RL arr c m ib l υ done seen D) (k : But U υ τ) (h1 : ¬ U ib) (h2 : ¬ U m) : RL arr c m ib l τ done seen D := ⟨h.nn, h.at_, h.came, h.what, h.each, k.keep _ _ h1 h.iter, k.keep _ _ h2 h.held⟩
theorem RL.ext (h : RL arr c m ib l υ done seen D) (k : Ext υ τ) : RL arr c m ib l τ done seen D := h.but (U := fun _ => False) k.but id id
theorem RL.keys (h : RL arr c m ib l υ done seen D) : (arr.toList.map (·.key)).Nodup := by
 have e1 : arr.toList.map (·.key) = (l.map (·.nm)).map sV := by
  have : arr.toList.map (·.key) = (arr.toList.map fun e : MapEntry => (e.key, e.val)).map (·.1) := by rw [List.map_map]; rfl
  rw [this, h.at_.1, ZiE, List.map_map, List.map_map]
  rfl
 rw [e1]
 exact Zkr h.nn fun x _ y _ e => Znw e
theorem RL.row (h : RL arr c m ib l υ done seen D) {e : MapEntry} (he : e ∈ arr.toList) : ∃ r ∈ l, e.key = sV r.nm /\ e.val = r.v.val := by
 have : (e.key, e.val) ∈ ZfF (ZfR l) := by
  rw [<- h.at_.1]
  exact List.mem_map.2 ⟨e, he, rfl⟩
 rw [ZiE] at this
 obtain ⟨r, hr, q⟩ := List.mem_map.1 this
 injection q with q1 q2
 exact ⟨r, hr, q1.symm, q2.symm⟩
theorem RL.nodup (h : RL arr c m ib l υ done seen D) : (done.map (·.nm)).Nodup := by
 have h1 : (D.map (·.key)).Nodup := Zkr (ZbZ h.came.nd) fun x hx y hy e => Zmi h.keys (h.came.sub x hx) (h.came.sub y hy) e
 have e1 : D.map (·.key) = (done.map (·.nm)).map sV := by
  have : D.map (·.key) = (D.map fun e : MapEntry => (e.key, e.val)).map (·.1) := by rw [List.map_map]; rfl
  rw [this, h.what, List.map_map, List.map_map]
  rfl
 rw [e1] at h1
 exact ZbZ h1
theorem RL.perm (h : RL arr c m ib l υ done seen D) (h0 : (leftOf arr seen).size = 0) : done.Perm l := by
 have hp := (h.came.perm h.at_.2.2 h0).map fun e : MapEntry => (e.key, e.val)
 rw [h.what, h.at_.1, ZiE] at hp
 refine (List.perm_ext_iff_of_nodup (ZbZ h.nodup) (ZbZ h.nn)).2 fun r => ⟨h.each r, fun hr => ?_⟩
 obtain ⟨q, hq, e⟩ := List.mem_map.1 (hp.mem_iff.2 (List.mem_map.2 ⟨r, hr, rfl⟩))
 injection e with e _
 rw [<- Zlw h.nn q (h.each q hq) r hr (Znw e)]
 exact hq
theorem RL.push (h : RL arr c m ib l υ done seen D) {e : MapEntry} (he : e ∈ (leftOf arr seen).toList) {r : Rw} (hr : r ∈ l) (hk : e.key = sV r.nm) (hv : e.val = r.v.val) (hi : τ.blk ib = some (.map (Zku m c (seen.push e.born) c))) (k : But (fun x => x = ib) υ τ) (hne : m ≠ ib) : RL arr c m ib l τ (done ++ [r]) (seen.push e.born) (D ++ [e]) := by
 refine ⟨h.nn, h.at_, h.came.push he, ?_, fun x hx => ?_, hi, k.keep _ _ hne h.held⟩
 ·rw [List.map_append, h.what, List.map_append]
  show _ ++ [(e.key, e.val)] = _ ++ [(sV r.nm, r.v.val)]
  rw [hk, hv]
 ·rcases List.mem_append.1 hx with hx | hx
  ·exact h.each x hx
  ·rw [List.mem_singleton.1 hx]; exact hr
end
section
variable {σ τ : St} {bb bb2 mb mb2 : Nat} {S S2 : Nat -> Prop} {fs fs2 : List Fl} {pcs pcs2 : List (Nat × Nat)} {size : Int} {pv pv2 : AV} {done : List (Fl × Fl)} {M B : Nat}
theorem Ziz.inv (I : Inv σ bb mb size S fs pcs pv M B) (h2 : DAt τ bb2 S2 fs2 pcs2 size mb2 pv2) (c : Ziz fs pcs fs2 pcs2 done) (hu : ∀ x, S2 x -> τ.used x) : Inv τ bb2 mb2 size S2 fs2 pcs2 pv2 M B := by
 obtain ⟨w1, w2, w3, w4, w5⟩ := c.wf I.disk h2 I.wf
 have hs : sumD fs2 = sumD fs := by
  rw [<- ZiD c.one, c.two]
  unfold sumD
  rw [List.map_map, List.map_map]
  congr 1
  exact List.map_congr_left fun q hq => by
   show q.2.d.length = q.1.d.length
   rw [(c.same q hq).2]
 exact ⟨h2, hu, w1, fun f hf => by
  obtain ⟨g, hg, e1, _⟩ := w5 f hf
  rw [e1]; exact I.nms g hg, by rw [hs]; exact I.sum, by rw [w3]; exact I.few, by rw [w4]; exact I.nfs, fun q => by rw [hs]; exact I.cap q⟩
theorem Inv.but {U : Nat -> Prop} (I : Inv σ bb mb size S fs pcs pv M B) (k : But U σ τ) (hU : ∀ c, S c -> ¬ U c) : Inv τ bb mb size S fs pcs pv M B := ⟨I.disk.but k hU, fun c hc => k.used _ (I.used c hc), I.wf, I.nms, I.sum, I.few, I.nfs, I.cap⟩
def Zfo (fs : List Fl) (pcs : List (Nat × Nat)) (L : Nat) (n : List UInt8) : Nat := match Zf3 (ZaV fs) n with
 | some b => ZiS b L pcs.reverse
 | none => 0
theorem Zks (h : DAt σ bb S fs pcs size mb pv) {f : Fl} (hf : f ∈ fs) (L : Nat) : Zfo fs pcs L f.nm = ZiS f.b L pcs.reverse := by
 unfold Zfo
 cases hg : Zf3 (ZaV fs) f.nm with
 | none => exact absurd rfl (ZcP.1 hg f hf)
 | some b =>
  obtain ⟨g, hg1, hg2, rfl⟩ := ZcO hg
  rw [h.uniqN hg1 hf hg2]
theorem Zru (h : DAt σ bb S fs pcs size mb pv) (hw : Wf fs pcs) {f : Fl} (hf : f ∈ fs) (L : Nat) : Zfo fs pcs L f.nm <= f.d.length := by
 rw [Zks h hf]
 refine Nat.le_trans (Zqd _ _ _) ?_
 rw [ZgJ]
 exact hw.fit f hf
theorem Zoq {n : List UInt8} {L L' : Nat} (h : L <= L') : Zfo fs pcs L n <= Zfo fs pcs L' n := by
 unfold Zfo
 split
 ·exact Zlt _ _ h
 ·exact Nat.le_refl _
theorem Zqi (h : DAt σ bb S fs pcs size mb pv) {l : List Rw} (hp : (l.map fun r => (r.nm, r.d)).Perm (fs.map fun f => (f.nm, f.d))) (L : Nat) : (l.map fun r => Zfo fs pcs L r.nm).sum = min L (ZbG pcs) := by
 have h1 : (l.map fun r => Zfo fs pcs L r.nm).sum = (fs.map fun f => Zfo fs pcs L f.nm).sum := by
  have := (hp.map fun p : List UInt8 × List UInt8 => Zfo fs pcs L p.1).sum_nat
  rwa [List.map_map, List.map_map] at this
 have h2 : (fs.map fun f => Zfo fs pcs L f.nm) = (fs.map (·.b)).map fun b => ZiS b L pcs.reverse := by
  rw [List.map_map]
  exact List.map_congr_left fun f hf => Zks h hf L
 have h3 : ZbG pcs.reverse = ZbG pcs := by
  unfold ZbG
  rw [List.map_reverse, List.sum_reverse]
 rw [h1, h2, Znz h.nd _ _ fun p hp => ?_, h3]
 obtain ⟨f, hf, e⟩ := h.inn p (List.mem_reverse.1 hp)
 exact List.mem_map.2 ⟨f, hf, e⟩
theorem Zmt {l lx : List Rw} {fs3 : List Fl} (hp : (l.map fun r => (r.nm, r.d)).Perm (fs.map fun f => (f.nm, f.d))) (hx : (lx.map fun r => (r.nm, r.d)).Perm (fs3.map fun f => (f.nm, f.d))) {g : List UInt8 -> Nat} (hf : ∀ f ∈ fs, ∃ f3 ∈ fs3, f3.nm = f.nm /\ f3.d = f.d.take (f.d.length - g f.nm)) : ∀ r ∈ l, ∃ rx ∈ lx, rx.nm = r.nm /\ rx.d = r.d.take (r.d.length - g r.nm) := fun r hr => by
 obtain ⟨f, hf1, e⟩ := List.mem_map.1 (hp.mem_iff.1 (List.mem_map.2 ⟨r, hr, rfl⟩))
 injection e with e1 e2
 obtain ⟨f3, hf3, q1, q2⟩ := hf f hf1
 obtain ⟨rx, hrx, e⟩ := List.mem_map.1 (hx.mem_iff.2 (List.mem_map.2 ⟨f3, hf3, rfl⟩))
 injection e with e3 e4
 exact ⟨rx, hrx, by rw [e3, q1, e1], by rw [e4, q2, e1, e2]⟩
end
theorem ZnF {N : Nat} {ρ : Nat -> AV} : ∀ {ns : List (List UInt8)} {cs : List AV}, SVs CT N ρ (ns.flatMap (CT.enc 2)) cs -> cs = Zj9 ns
 | [], cs, h => by
  rw [List.flatMap_nil, Za4] at h
  rw [h]
  rfl
 | n :: ns, cs, h => by
  rw [List.flatMap_cons] at h
  have h : SVs CT N ρ (XV.str n :: ns.flatMap (CT.enc 2)) cs := h
  obtain ⟨a0, as_, rfl, h0, h1⟩ := h.to
  rw [Zbq.1 h0, ZnF h1]
  rfl
theorem Zrv {σ : St} {ns : List (List UInt8)} {a : AV} (h : SV CT 0 Zf2 (.sl 2 ns none) a) : ZeP σ a ns /\ (∀ c, hbk a = some c -> False) /\ a.one = true /\ Zb7 a = true := by
 obtain ⟨A, c, cs, rest, rfl, l1, l2, l3, l4, l5⟩ := ZcC.1 h
 rw [ZnF l5]
 exact ⟨.inl ⟨A, c, rest, rfl, fun q => (l4 q).1⟩, (fun c hc => by cases hc), rfl, rfl⟩
theorem Zlx {N : Nat} {ρ : Nat -> AV} : ∀ {l : List Zc1} {cs : List AV}, SVs CT N ρ (l.flatMap (CT.enc 6)) cs -> ∀ (i : Nat) (h : i < l.length), ∃ vN vP, (cs.drop (i * 5)).take 5 = Zga l[i].kind l[i].name vN l[i].n vP /\ (i + 1) * 5 <= cs.length /\ SV CT N ρ (.sl 2 l[i].names none) vN /\ SV CT N ρ (.sl 3 l[i].parts none) vP
 | f :: l, cs, hs, i, hi => by
  rw [List.flatMap_cons] at hs
  have hs : SVs CT N ρ (XV.int .i64 f.kind :: XV.str f.name :: XV.sl 2 f.names none :: XV.int .i64 f.n :: XV.sl 3 f.parts none :: l.flatMap (CT.enc 6)) cs := hs
  obtain ⟨a0, c0, rfl, h0, hs⟩ := hs.to
  obtain ⟨a1, c1, rfl, h1, hs⟩ := hs.to
  obtain ⟨a2, c2, rfl, h2, hs⟩ := hs.to
  obtain ⟨a3, c3, rfl, h3, hs⟩ := hs.to
  obtain ⟨a4, c4, rfl, h4, hs⟩ := hs.to
  cases i with
  | zero =>
   refine ⟨a2, a4, ?_, by simp only [List.length_cons]; omega, h2, h4⟩
   rw [Zap.1 h0, Zbq.1 h1, Zap.1 h3]
   rfl
  | succ i =>
   obtain ⟨vN, vP, q1, q2, q3, q4⟩ := Zlx (l := l) hs i (by simpa using hi)
   refine ⟨vN, vP, ?_, by simp only [List.length_cons]; omega, q3, q4⟩
   rw [show (i + 1) * 5 = i * 5 + 5 by omega]
   exact q1
end Go.Proofs.Ytinpiaibhjmfaaa
