/- DiskEnds, by hand. -/
import Derived.Test.YtinpiaibhjmfaaaReg
namespace Go.Proofs.Ytinpiaibhjmfaaa
open Go.RowKit
set_option maxRecDepth 100000
set_option linter.unusedVariables false
set_option linter.unusedSimpArgs false
theorem ZgR : ZaX Try.prog 59 = some 29 := by kernel_rfl
theorem ZjE : ZaO Try.prog 29 = some 1 := by kernel_rfl
theorem ZmC : Zek Try.prog 29 = some false := by kernel_rfl
theorem ZoM : ZbL Try.prog 29 = some (.slice none 0 0) := by kernel_rfl
theorem ZgS : ZcT Try.prog 28 = some 80 := by kernel_rfl
theorem ZkV {P : Program} {σ : St} {f : FuncId} {args args' : List AV} {rv : AV} (hl : ZcP (fun _ => True) σ args args') (h1 : Zat P f args' (ZfC (fun _ => True) σ) fun r τ => r = rv) (hrv : ∀ w B, Zap w B rv) (K : AV -> St -> Prop) (hK : ∀ τ, Ext σ τ -> K rv τ) : Zat P f args σ K := by
 intro w Z hH hV
 have hc := h1 w Z (ZjR hH) (hl.valid hH hV)
 rw [hl.vals] at hc
 refine hc.mono ?_
 rintro y w' ⟨r, τ, rfl, rfl, hH', _, hG⟩
 obtain ⟨g1, g2, g3, g4, g5, g6, _, g8⟩ := hG
 have hin : ∀ b, (ZfC (fun _ => True) σ).blk b = none := fun b => ZdR trivial
 have hsame : ∀ b, b < w.heap.size -> w'.heap[b]? = w.heap[b]? := fun b hb => (g6 b hb (hin b)).1
 have hfin : ∃ n, ∀ b, n <= b -> ¬ τ.used b /\ σ.blk b = none := by
  obtain ⟨n1, q1⟩ := σ.fin
  obtain ⟨n2, q2⟩ := τ.fin
  exact ⟨n1 + n2, fun b hb => ⟨(q2 b (by omega)).1, (q1 b (by omega)).2⟩⟩
 have hG2 : Grow w σ w' ⟨σ.blk, τ.used, hfin⟩ := ⟨g1, g2, g3, g4, g5, fun b hb hn => ⟨hsame b hb, hn⟩, fun b t k s hb ht => ⟨fun j v _ hv => by rw [World.cell?_of_block (w := w) (hsame b hb)]; exact hv, .inr ⟨t, k, s, ht, Nat.le_refl _⟩⟩, g8⟩
 refine ⟨r, ⟨σ.blk, τ.used, hfin⟩, rfl, hK _ ⟨fun b k hk => hk, g8⟩, ⟨hH'.used, fun b hz => ⟨(hH'.z b hz).1, (hH.z b hz).2⟩, fun b t cs hb => ?_, fun b t k s hb => ?_, fun b es hb => ?_⟩, hrv _ _, hG2⟩
 ·obtain ⟨q1, q2, q3⟩ := hH.own _ _ _ hb
  exact ⟨g8 _ q1, (hsame b (hH.used _ q1)).trans q2, fun c hc => hG2.valid (q3 c hc)⟩
 ·obtain ⟨q1, cs, q2, q3⟩ := hH.tail _ _ _ _ hb
  exact ⟨g8 _ q1, cs, (hsame b (hH.used _ q1)).trans q2, q3⟩
 ·obtain ⟨q1, a, c, q2, q3⟩ := hH.map _ _ hb
  exact ⟨g8 _ q1, a, c, (hsame b (hH.used _ q1)).trans q2, q3⟩
theorem Zbk {E N : Nat} {ρ : Nat -> AV} : SV CT N ρ (.sl E [] none) (.lst none 0 0 []) := Zd2.2 ⟨none, 0, [], [], rfl, Nat.le_refl _, Nat.zero_le _, Nat.zero_le _, fun _ => ⟨rfl, rfl⟩, .none⟩
def isL : AV -> Bool
 | .lst _ _ _ _ => true
 | _ => false
theorem Zi6 : ∀ (vs pre zs : List AV), vs.all isL = true -> zs.length = vs.length -> Zcf (fun i => some (i * 1, 1)) (pre ++ zs) ((List.range' pre.length vs.length).zip vs) = some (pre ++ vs)
 | [], pre, zs, _, hz => by
  have : zs = [] := List.eq_nil_of_length_eq_zero hz
  subst this
  simp [Zcf]
 | v :: vs, pre, [], _, hz => by cases hz
 | v :: vs, pre, z :: zs, h, hz => by
  rw [List.all_cons, Bool.and_eq_true] at h
  have h1 : Zbi v = true /\ v.cells = [v] := by
   have := h.1
   unfold isL at this
   split at this
   ·exact ⟨rfl, rfl⟩
   ·cases this
  have ih := Zi6 vs (pre ++ [v]) zs h.2 (by simpa using hz)
  rw [List.length_cons, List.range'_succ, List.zip_cons_cons]
  unfold Zcf
  dsimp only
  rw [if_neg (by simp [h1.1, h1.2])]
  have e : ZaR (pre ++ z :: zs) (pre.length * 1) v.cells = (pre ++ [v]) ++ zs := by
   rw [h1.2]
   simp [ZaR]
  rw [e]
  rw [List.length_append] at ih
  simpa using ih
theorem ZoN (vs : List AV) (h : vs.all isL = true) (hl : vs.length = 17) : Zcf (fun i => some (i * 1, 1)) ((List.range (17 * 1)).map fun i => .ofV ((Value.slice none 0 0).cells[i % 1]!)) ([0, 1, 2, 3, 4, 5, 6, 7, 8, 9, 10, 11, 12, 13, 14, 15, 16].zip vs) = some vs := by
 have := Zi6 vs [] ((List.range (17 * 1)).map fun i => .ofV ((Value.slice none 0 0).cells[i % 1]!)) h (by rw [hl]; rfl)
 rw [hl] at this
 exact this
section
variable {ops : Array Oper} {env : Env} {σ : St} {K : Env -> St -> Prop} {d : Option Nat} {ty ty' t : TypeId} {pos : String} {af : Array Edge} {x y : Operand}
theorem Zdm {P : Program} {l : List Oper} (F : Env -> Prop) (h0 : F env) (h : ∀ e, F e -> ZbV P ops l e σ K) : ZbV P ops l env σ K := h _ h0
theorem Zbm {n : Nat} {parts : Array (Nat × Operand)} {e sz : Nat} {v : Value} {vs cells : List AV} {E : Nat} {xs : List (Ty E)} (hv : parts.toList.map (fun p => ev env p.2) = vs) (ht : ZaX Try.prog t = some e) (hs : ZaO Try.prog e = some sz) (hz : ZbL Try.prog e = some v) (hzs : v.cells.size = sz) (hn : n * sz <= 16777216)
 (hf : Zcf (fun i => some (i * sz, sz)) ((List.range (n * sz)).map fun i => .ofV (v.cells[i % sz]!)) ((parts.toList.map (·.1)).zip vs) = some cells) (hl : xs.length = n) (hn2 : n <= 1000) (hsv : SVs CT 0 ZdC (xs.flatMap (CT.enc E)) cells)
 (h : ∀ b cells' τ, SV CT 0 ZdC (.sl E xs none) (.lst (some ⟨b, 0, none⟩) n n cells') -> SVs CT 0 ZdC (xs.flatMap (CT.enc E)) cells' -> Ext σ τ -> K (env.put d (.lst (some ⟨b, 0, none⟩) n n cells')) τ) : aOp Try.prog ops ⟨d, .buildSlice t n parts, ty, pos, af, none⟩ env σ K :=
 Zbd hv ht hs hz hzs hn hf fun b hu hb => h b cells _ (by
  subst hl
  exact Zd2.2 ⟨some ⟨b, 0, none⟩, xs.length, cells, [], by rw [List.append_nil], Nat.le_refl _, by unfold maxLen; omega, by omega, fun q => (by cases q), hsv⟩) hsv (Ext.put _ hb)
theorem Zkp {a c : List UInt8} (hx : ev env x = .raw (.string ⟨a.toArray⟩)) (hy : ev env y = .raw (.string ⟨c.toArray⟩)) (hs : a.length + c.length <= 9223372036854775807) (h : K (env.put d (.raw (sV (a ++ c)))) σ) : aOp Try.prog ops ⟨d, .binOp .add t x y ty', ty, pos, af, none⟩ env σ K :=
 ZdZ hx hy (fun w _ _ => by
  have hs : (ByteArray.mk a.toArray).size + (ByteArray.mk c.toArray).size <= 9223372036854775807 := by
   show a.toArray.size + c.toArray.size <= (9223372036854775807 : Nat)
   simp only [List.size_toArray]
   omega
  rw [AV.val_raw, AV.val_raw, eqGuard_at_string, pure_bind, binOp_string_add, run_string_add_sum w _ _ hs, ByteArray.mk_append_mk]) h
end
def Zcb : List UInt8 := [48, 49, 50, 51, 52, 53, 54, 55, 56, 57, 48, 49, 50, 51, 52, 53, 54, 55, 56, 57, 48, 49, 50, 51, 52, 53, 54, 55, 56, 57, 48, 49, 50, 51, 52, 53, 54, 55, 56, 57]
def ZoZ : List ZbG := [⟨0, [97], [], 0, [[1, 2], [3]]⟩, ⟨0, [98], [], 0, [[4, 5, 6, 7]]⟩, ⟨0, [97], [], 0, [[8, 9]]⟩, ⟨0, [99], [], 0, []⟩, ⟨0, [98], [], 0, [[], [10]]⟩]
def Zh4 : List (List ZbG) := [[], [⟨2, [], [[97]], 0, []⟩], [⟨2, [], [[98], [110, 111, 110, 101], [97]], 0, []⟩], [⟨3, [97], [], 4, []⟩], [⟨3, [97], [], 2, []⟩], [⟨3, [98], [], 0, []⟩, ⟨0, [98], [], 0, [[11]]⟩], [⟨4, [97], [[98]], 0, []⟩], [⟨4, [97], [[97]], 0, []⟩], [⟨4, [98], [[122]], 0, []⟩, ⟨0, [98], [], 0, [[12, 13]]⟩], [⟨5, [], [[97], [110, 111, 110, 101], [98]], 0, []⟩], [⟨4, [110, 111, 110, 101], [[]], 0, []⟩], [⟨4, [97], [(Zcb ++ [120])], 0, []⟩], [⟨3, [97], [], 6, []⟩], [⟨3, [97], [], -1, []⟩], [⟨3, [110, 111, 110, 101], [], 0, []⟩], [⟨0, [], [], 0, []⟩], [⟨0, Zcb, [], 0, [[1]]⟩, ⟨0, (Zcb ++ [120]), [], 0, []⟩]]
theorem ZjF {n : Int} (h1 : -9223372036854775808 <= n) (h2 : n <= 9223372036854775807) : InK .i64 n := by
 have : -9223372036854775808 <= n /\ n <= 9223372036854775807 := ⟨h1, h2⟩
 simpa [InK, Lit.wf, IntKind.bits, IntKind.signed, IntKind.min, IntKind.max] using this
def okB (x : ZbG) : Bool := decide (0 <= x.kind) && decide (x.kind <= 10) && decide (x.name.length <= 100) && decide (x.names.length <= 100) && x.names.all (fun n => decide (n.length <= 100)) && decide (-100 <= x.n) && decide (x.n <= 100) && decide (x.parts.length <= 100) && x.parts.all (fun n => decide (n.length <= 100))
theorem ZgT {x : ZbG} (h : okB x = true) : Zf4 x := by
 unfold okB at h
 simp only [Bool.and_eq_true, decide_eq_true_eq, List.all_eq_true] at h
 obtain ⟨⟨⟨⟨⟨⟨⟨⟨h1, h2⟩, h3⟩, h4⟩, h5⟩, h6⟩, h7⟩, h8⟩, h9⟩ := h
 refine ⟨ZjF (by omega) (by omega), ?_, ⟨by omega, fun y hy => ?_, by omega⟩, ZjF (by omega) (by omega), ⟨by omega, fun y hy => ?_, by omega⟩, trivial⟩
 ·show x.name.length <= 140737488355328
  omega
 ·have := h5 y hy
  show y.length <= 140737488355328
  omega
 ·have := h9 y hy
  exact ⟨by omega, fun _ _ => trivial, by omega⟩
theorem ZoO : ∀ x ∈ ZoZ, okB x = true := by decide
theorem ZmD : ∀ l ∈ Zh4, (∀ x ∈ l, okB x = true) /\ l.length <= 2 := by decide
theorem ZgU {N : Nat} {ρ : Nat -> AV} : ∀ {l : List (List ZbG)} {cs : List AV}, SVs CT N ρ (l.flatMap (CT.enc 9)) cs -> cs.length = l.length /\ ∀ i (h : i < l.length), ∃ v, cs[i]? = some v /\ SV CT N ρ (.sl 6 l[i] none) v
 | [], cs, h => by
  rw [Zdh.1 h]
  exact ⟨rfl, fun i h => absurd h (Nat.not_lt_zero i)⟩
 | f :: l, cs, hs => by
  rw [List.flatMap_cons] at hs
  have hs : SVs CT N ρ (XV.sl 6 f none :: l.flatMap (CT.enc 9)) cs := hs
  obtain ⟨a0, as_, rfl, h0, h1⟩ := hs.to
  obtain ⟨q1, q2⟩ := ZgU h1
  refine ⟨by simp [q1], fun i hi => ?_⟩
  cases i with
  | zero => exact ⟨a0, rfl, h0⟩
  | succ i =>
   obtain ⟨v, r1, r2⟩ := q2 i (by simpa using hi)
   exact ⟨v, r1, r2⟩
theorem ZqM {G : Nat -> Prop} {σ : St} {a b c d e f : AV} (h : ZkD G σ e f) : ZcP G σ [a, b, c, d, e] [a, b, c, d, f] := ⟨.refl _, .refl _, .refl _, .refl _, h, trivial⟩
theorem ZgV {N : Nat} {ρ : Nat -> AV} {l : List ZbG} {cs : List AV} (h : SVs CT N ρ (l.flatMap (CT.enc 6)) cs) : ∀ a ∈ cs, a.one = true := h.ones fun x hx => by
 obtain ⟨f, _, hx⟩ := List.mem_flatMap.1 hx
 have hx : x ∈ [XV.int .i64 f.kind, XV.str f.name, XV.sl 2 f.names none, XV.int .i64 f.n, XV.sl 3 f.parts none] := hx
 simp only [List.mem_cons, List.not_mem_nil, or_false] at hx
 rcases hx with rfl | rfl | rfl | rfl | rfl <;> rfl
theorem Zkq {N : Nat} {ρ : Nat -> AV} {l : List ZbG} {cs : List AV} (h : SVs CT N ρ (l.flatMap (CT.enc 6)) cs) : cs.length = l.length * 5 := by
 rw [h.len]
 clear h
 induction l with
 | nil => rfl
 | cons f l ih =>
  rw [List.flatMap_cons, List.length_append, ih]
  show 5 + l.length * 5 = (l.length + 1) * 5
  omega
section
variable {σ : St} {K : AV -> St -> Prop}
set_option maxHeartbeats 8000000 in
theorem ZnF (hK : ∀ τ, K (vT true) τ) : Zat Try.prog 5 [] σ K := by
 refine Zam Zas Try.func5 rfl rfl rfl (Nat.le_of_ble_eq_true rfl) ?_
 refine Zaa ?_
 refine Zab (Zfh rfl ?_)
 refine Zaf ?_
 refine Zaa ?_
 refine Zab (Zfh (v := .raw (sV Zcb)) rfl ?_)
 refine Zaf ?_
 refine Zbz 1 (v0 := .raw (sV Zcb)) (by simp only [EV, Nat.reduceEqDiff, ↓reduceIte]) ?_
 intro e he
 repeat refine Zac ?_
 first|refine Zaa ?_|refine Zad ?_
 refine Zab ?_
 refine Zbm (E := 1) (xs := ([1, 2] : List UInt8)) (vs := [.raw (.int .u8 1), .raw (.int .u8 2)]) (cells := bys [1, 2]) (by simp only [List.map_cons, List.map_nil, EV,Nat.reduceEqDiff,↓reduceIte,he];try rfl) Zaw Zbf ZbT rfl (by decide) rfl rfl (by decide) (Ze7 _) fun b11 c11 υ11 p11 s11 x11 => ?_
 refine Zab ?_
 refine Zbm (E := 1) (xs := ([3] : List UInt8)) (vs := [.raw (.int .u8 3)]) (cells := bys [3]) (by simp only [List.map_cons, List.map_nil, EV,Nat.reduceEqDiff,↓reduceIte,he];try rfl) Zaw Zbf ZbT rfl (by decide) rfl rfl (by decide) (Ze7 _) fun b12 c12 υ12 p12 s12 x12 => ?_
 refine Zab ?_
 refine Zbm (E := 3) (xs := ([[1, 2], [3]] : List (List UInt8))) (vs := [.lst (some ⟨b11, 0, none⟩) 2 2 c11, .lst (some ⟨b12, 0, none⟩) 1 1 c12]) (cells := [.lst (some ⟨b11, 0, none⟩) 2 2 c11, .lst (some ⟨b12, 0, none⟩) 1 1 c12]) (by simp only [List.map_cons, List.map_nil, EV,Nat.reduceEqDiff,↓reduceIte,he];try rfl) Zba ZaJ ZcI rfl (by decide) rfl rfl (by decide) (.cons p11 (.cons p12 (.none))) fun b13 c13 υ13 p13 s13 x13 => ?_
 refine Zab ?_
 refine Za4 (vs := [.raw (.int .i64 0), .raw (sV [97]), .lst (some ⟨b13, 0, none⟩) 2 2 c13]) (cells := [.raw (.int .i64 0), .raw (sV [97]), .lst none 0 0 [], .raw (.int .i64 0), .lst (some ⟨b13, 0, none⟩) 2 2 c13]) (by simp only [List.map_cons, List.map_nil, EV,Nat.reduceEqDiff,↓reduceIte,he];try rfl) ZaC Zbv rfl ?_
 refine Zab ?_
 refine Zbm (E := 1) (xs := ([4, 5, 6, 7] : List UInt8)) (vs := [.raw (.int .u8 4), .raw (.int .u8 5), .raw (.int .u8 6), .raw (.int .u8 7)]) (cells := bys [4, 5, 6, 7]) (by simp only [List.map_cons, List.map_nil, EV,Nat.reduceEqDiff,↓reduceIte,he];try rfl) Zaw Zbf ZbT rfl (by decide) rfl rfl (by decide) (Ze7 _) fun b15 c15 υ15 p15 s15 x15 => ?_
 refine Zab ?_
 refine Zbm (E := 3) (xs := ([[4, 5, 6, 7]] : List (List UInt8))) (vs := [.lst (some ⟨b15, 0, none⟩) 4 4 c15]) (cells := [.lst (some ⟨b15, 0, none⟩) 4 4 c15]) (by simp only [List.map_cons, List.map_nil, EV,Nat.reduceEqDiff,↓reduceIte,he];try rfl) Zba ZaJ ZcI rfl (by decide) rfl rfl (by decide) (.cons p15 (.none)) fun b16 c16 υ16 p16 s16 x16 => ?_
 refine Zab ?_
 refine Za4 (vs := [.raw (.int .i64 0), .raw (sV [98]), .lst (some ⟨b16, 0, none⟩) 1 1 c16]) (cells := [.raw (.int .i64 0), .raw (sV [98]), .lst none 0 0 [], .raw (.int .i64 0), .lst (some ⟨b16, 0, none⟩) 1 1 c16]) (by simp only [List.map_cons, List.map_nil, EV,Nat.reduceEqDiff,↓reduceIte,he];try rfl) ZaC Zbv rfl ?_
 refine Zab ?_
 refine Zbm (E := 1) (xs := ([8, 9] : List UInt8)) (vs := [.raw (.int .u8 8), .raw (.int .u8 9)]) (cells := bys [8, 9]) (by simp only [List.map_cons, List.map_nil, EV,Nat.reduceEqDiff,↓reduceIte,he];try rfl) Zaw Zbf ZbT rfl (by decide) rfl rfl (by decide) (Ze7 _) fun b18 c18 υ18 p18 s18 x18 => ?_
 refine Zab ?_
 refine Zbm (E := 3) (xs := ([[8, 9]] : List (List UInt8))) (vs := [.lst (some ⟨b18, 0, none⟩) 2 2 c18]) (cells := [.lst (some ⟨b18, 0, none⟩) 2 2 c18]) (by simp only [List.map_cons, List.map_nil, EV,Nat.reduceEqDiff,↓reduceIte,he];try rfl) Zba ZaJ ZcI rfl (by decide) rfl rfl (by decide) (.cons p18 (.none)) fun b19 c19 υ19 p19 s19 x19 => ?_
 refine Zab ?_
 refine Za4 (vs := [.raw (.int .i64 0), .raw (sV [97]), .lst (some ⟨b19, 0, none⟩) 1 1 c19]) (cells := [.raw (.int .i64 0), .raw (sV [97]), .lst none 0 0 [], .raw (.int .i64 0), .lst (some ⟨b19, 0, none⟩) 1 1 c19]) (by simp only [List.map_cons, List.map_nil, EV,Nat.reduceEqDiff,↓reduceIte,he];try rfl) ZaC Zbv rfl ?_
 refine Zab ?_
 refine Za4 (vs := [.raw (.int .i64 0), .raw (sV [99])]) (cells := [.raw (.int .i64 0), .raw (sV [99]), .lst none 0 0 [], .raw (.int .i64 0), .lst none 0 0 []]) (by simp only [List.map_cons, List.map_nil, EV,Nat.reduceEqDiff,↓reduceIte,he];try rfl) ZaC Zbv rfl ?_
 refine Zab ?_
 refine Zbm (E := 1) (xs := ([10] : List UInt8)) (vs := [.raw (.int .u8 10)]) (cells := bys [10]) (by simp only [List.map_cons, List.map_nil, EV,Nat.reduceEqDiff,↓reduceIte,he];try rfl) Zaw Zbf ZbT rfl (by decide) rfl rfl (by decide) (Ze7 _) fun b22 c22 υ22 p22 s22 x22 => ?_
 refine Zab ?_
 refine Zbm (E := 3) (xs := ([[], [10]] : List (List UInt8))) (vs := [.lst none 0 0 [], .lst (some ⟨b22, 0, none⟩) 1 1 c22]) (cells := [.lst none 0 0 [], .lst (some ⟨b22, 0, none⟩) 1 1 c22]) (by simp only [List.map_cons, List.map_nil, EV,Nat.reduceEqDiff,↓reduceIte,he];try rfl) Zba ZaJ ZcI rfl (by decide) rfl rfl (by decide) (.cons Zbk (.cons p22 (.none))) fun b23 c23 υ23 p23 s23 x23 => ?_
 refine Zab ?_
 refine Za4 (vs := [.raw (.int .i64 0), .raw (sV [98]), .lst (some ⟨b23, 0, none⟩) 2 2 c23]) (cells := [.raw (.int .i64 0), .raw (sV [98]), .lst none 0 0 [], .raw (.int .i64 0), .lst (some ⟨b23, 0, none⟩) 2 2 c23]) (by simp only [List.map_cons, List.map_nil, EV,Nat.reduceEqDiff,↓reduceIte,he];try rfl) ZaC Zbv rfl ?_
 refine Zab ?_
 refine Zbm (E := 6) (xs := ([⟨0, [97], [], 0, [[1, 2], [3]]⟩, ⟨0, [98], [], 0, [[4, 5, 6, 7]]⟩, ⟨0, [97], [], 0, [[8, 9]]⟩, ⟨0, [99], [], 0, []⟩, ⟨0, [98], [], 0, [[], [10]]⟩] : List ZbG)) (vs := [.agg [.raw (.int .i64 0), .raw (sV [97]), .lst none 0 0 [], .raw (.int .i64 0), .lst (some ⟨b13, 0, none⟩) 2 2 c13], .agg [.raw (.int .i64 0), .raw (sV [98]), .lst none 0 0 [], .raw (.int .i64 0), .lst (some ⟨b16, 0, none⟩) 1 1 c16], .agg [.raw (.int .i64 0), .raw (sV [97]), .lst none 0 0 [], .raw (.int .i64 0), .lst (some ⟨b19, 0, none⟩) 1 1 c19], .agg [.raw (.int .i64 0), .raw (sV [99]), .lst none 0 0 [], .raw (.int .i64 0), .lst none 0 0 []], .agg [.raw (.int .i64 0), .raw (sV [98]), .lst none 0 0 [], .raw (.int .i64 0), .lst (some ⟨b23, 0, none⟩) 2 2 c23]]) (cells := [.raw (.int .i64 0), .raw (sV [97]), .lst none 0 0 [], .raw (.int .i64 0), .lst (some ⟨b13, 0, none⟩) 2 2 c13, .raw (.int .i64 0), .raw (sV [98]), .lst none 0 0 [], .raw (.int .i64 0), .lst (some ⟨b16, 0, none⟩) 1 1 c16, .raw (.int .i64 0), .raw (sV [97]), .lst none 0 0 [], .raw (.int .i64 0), .lst (some ⟨b19, 0, none⟩) 1 1 c19, .raw (.int .i64 0), .raw (sV [99]), .lst none 0 0 [], .raw (.int .i64 0), .lst none 0 0 [], .raw (.int .i64 0), .raw (sV [98]), .lst none 0 0 [], .raw (.int .i64 0), .lst (some ⟨b23, 0, none⟩) 2 2 c23]) (by simp only [List.map_cons, List.map_nil, EV,Nat.reduceEqDiff,↓reduceIte,he];try rfl) ZaW Zbw ZaC rfl (by decide) rfl rfl (by decide) (.cons (ZaM.2 rfl) (.cons (Zbj.2 rfl) (.cons Zbk (.cons (ZaM.2 rfl) (.cons p13 (.cons (ZaM.2 rfl) (.cons (Zbj.2 rfl) (.cons Zbk (.cons (ZaM.2 rfl) (.cons p16 (.cons (ZaM.2 rfl) (.cons (Zbj.2 rfl) (.cons Zbk (.cons (ZaM.2 rfl) (.cons p19 (.cons (ZaM.2 rfl) (.cons (Zbj.2 rfl) (.cons Zbk (.cons (ZaM.2 rfl) (.cons Zbk (.cons (ZaM.2 rfl) (.cons (Zbj.2 rfl) (.cons Zbk (.cons (ZaM.2 rfl) (.cons p23 (.none)))))))))))))))))))))))))) fun b25 c25 υ25 p25 s25 x25 => ?_
 refine Zab (Zae rfl (by simp only [EV,Nat.reduceEqDiff,↓reduceIte,he];try rfl) ?_)
 refine Zaf ?_
 apply ZaK 1 2
 iterate 2 ·simp only [EV,Nat.reduceEqDiff,↓reduceIte,he];try rfl
 clear he e
 intro e he
 repeat refine Zac ?_
 first|refine Zaa ?_|refine Zad ?_
 refine Zab ?_
 refine Zbm (E := 2) (xs := ([[97]] : List (List UInt8))) (vs := [.raw (sV [97])]) (cells := [.raw (sV [97])]) (by simp only [List.map_cons, List.map_nil, EV,Nat.reduceEqDiff,↓reduceIte,he];try rfl) ZaE Zb3 ZdL rfl (by decide) rfl rfl (by decide) (.cons (Zbj.2 rfl) (.none)) fun b26 c26 υ26 p26 s26 x26 => ?_
 refine Zab ?_
 refine Za4 (vs := [.raw (.int .i64 2), .lst (some ⟨b26, 0, none⟩) 1 1 c26]) (cells := [.raw (.int .i64 2), .raw (sV []), .lst (some ⟨b26, 0, none⟩) 1 1 c26, .raw (.int .i64 0), .lst none 0 0 []]) (by simp only [List.map_cons, List.map_nil, EV,Nat.reduceEqDiff,↓reduceIte,he];try rfl) ZaC Zbv rfl ?_
 refine Zab ?_
 refine Zbm (E := 6) (xs := ([⟨2, [], [[97]], 0, []⟩] : List ZbG)) (vs := [.agg [.raw (.int .i64 2), .raw (sV []), .lst (some ⟨b26, 0, none⟩) 1 1 c26, .raw (.int .i64 0), .lst none 0 0 []]]) (cells := [.raw (.int .i64 2), .raw (sV []), .lst (some ⟨b26, 0, none⟩) 1 1 c26, .raw (.int .i64 0), .lst none 0 0 []]) (by simp only [List.map_cons, List.map_nil, EV,Nat.reduceEqDiff,↓reduceIte,he];try rfl) ZaW Zbw ZaC rfl (by decide) rfl rfl (by decide) (.cons (ZaM.2 rfl) (.cons (Zbj.2 rfl) (.cons p26 (.cons (ZaM.2 rfl) (.cons Zbk (.none)))))) fun b28 c28 υ28 p28 s28 x28 => ?_
 refine Zdm (fun e => e 1 = .raw (sV Zcb) /\ e 2 = .lst (some ⟨b25, 0, none⟩) 5 5 c25 /\ e 28 = .lst (some ⟨b28, 0, none⟩) 1 1 c28) ⟨by simp only [EV,Nat.reduceEqDiff,↓reduceIte,he];try rfl, by simp only [EV,Nat.reduceEqDiff,↓reduceIte,he];try rfl, by simp only [EV,Nat.reduceEqDiff,↓reduceIte,he];try rfl⟩ ?_
 clear he e
 intro e he
 refine Zab ?_
 refine Zbm (E := 2) (xs := ([[98], [110, 111, 110, 101], [97]] : List (List UInt8))) (vs := [.raw (sV [98]), .raw (sV [110, 111, 110, 101]), .raw (sV [97])]) (cells := [.raw (sV [98]), .raw (sV [110, 111, 110, 101]), .raw (sV [97])]) (by simp only [List.map_cons, List.map_nil, EV,Nat.reduceEqDiff,↓reduceIte,he];try rfl) ZaE Zb3 ZdL rfl (by decide) rfl rfl (by decide) (.cons (Zbj.2 rfl) (.cons (Zbj.2 rfl) (.cons (Zbj.2 rfl) (.none)))) fun b29 c29 υ29 p29 s29 x29 => ?_
 refine Zab ?_
 refine Za4 (vs := [.raw (.int .i64 2), .lst (some ⟨b29, 0, none⟩) 3 3 c29]) (cells := [.raw (.int .i64 2), .raw (sV []), .lst (some ⟨b29, 0, none⟩) 3 3 c29, .raw (.int .i64 0), .lst none 0 0 []]) (by simp only [List.map_cons, List.map_nil, EV,Nat.reduceEqDiff,↓reduceIte,he];try rfl) ZaC Zbv rfl ?_
 refine Zab ?_
 refine Zbm (E := 6) (xs := ([⟨2, [], [[98], [110, 111, 110, 101], [97]], 0, []⟩] : List ZbG)) (vs := [.agg [.raw (.int .i64 2), .raw (sV []), .lst (some ⟨b29, 0, none⟩) 3 3 c29, .raw (.int .i64 0), .lst none 0 0 []]]) (cells := [.raw (.int .i64 2), .raw (sV []), .lst (some ⟨b29, 0, none⟩) 3 3 c29, .raw (.int .i64 0), .lst none 0 0 []]) (by simp only [List.map_cons, List.map_nil, EV,Nat.reduceEqDiff,↓reduceIte,he];try rfl) ZaW Zbw ZaC rfl (by decide) rfl rfl (by decide) (.cons (ZaM.2 rfl) (.cons (Zbj.2 rfl) (.cons p29 (.cons (ZaM.2 rfl) (.cons Zbk (.none)))))) fun b31 c31 υ31 p31 s31 x31 => ?_
 refine Zdm (fun e => e 1 = .raw (sV Zcb) /\ e 2 = .lst (some ⟨b25, 0, none⟩) 5 5 c25 /\ e 28 = .lst (some ⟨b28, 0, none⟩) 1 1 c28 /\ e 31 = .lst (some ⟨b31, 0, none⟩) 1 1 c31) ⟨by simp only [EV,Nat.reduceEqDiff,↓reduceIte,he];try rfl, by simp only [EV,Nat.reduceEqDiff,↓reduceIte,he];try rfl, by simp only [EV,Nat.reduceEqDiff,↓reduceIte,he];try rfl, by simp only [EV,Nat.reduceEqDiff,↓reduceIte,he];try rfl⟩ ?_
 clear he e
 intro e he
 refine Zab ?_
 refine Za4 (vs := [.raw (.int .i64 3), .raw (sV [97]), .raw (.int .i64 4)]) (cells := [.raw (.int .i64 3), .raw (sV [97]), .lst none 0 0 [], .raw (.int .i64 4), .lst none 0 0 []]) (by simp only [List.map_cons, List.map_nil, EV,Nat.reduceEqDiff,↓reduceIte,he];try rfl) ZaC Zbv rfl ?_
 refine Zab ?_
 refine Zbm (E := 6) (xs := ([⟨3, [97], [], 4, []⟩] : List ZbG)) (vs := [.agg [.raw (.int .i64 3), .raw (sV [97]), .lst none 0 0 [], .raw (.int .i64 4), .lst none 0 0 []]]) (cells := [.raw (.int .i64 3), .raw (sV [97]), .lst none 0 0 [], .raw (.int .i64 4), .lst none 0 0 []]) (by simp only [List.map_cons, List.map_nil, EV,Nat.reduceEqDiff,↓reduceIte,he];try rfl) ZaW Zbw ZaC rfl (by decide) rfl rfl (by decide) (.cons (ZaM.2 rfl) (.cons (Zbj.2 rfl) (.cons Zbk (.cons (ZaM.2 rfl) (.cons Zbk (.none)))))) fun b33 c33 υ33 p33 s33 x33 => ?_
 refine Zdm (fun e => e 1 = .raw (sV Zcb) /\ e 2 = .lst (some ⟨b25, 0, none⟩) 5 5 c25 /\ e 28 = .lst (some ⟨b28, 0, none⟩) 1 1 c28 /\ e 31 = .lst (some ⟨b31, 0, none⟩) 1 1 c31 /\ e 33 = .lst (some ⟨b33, 0, none⟩) 1 1 c33) ⟨by simp only [EV,Nat.reduceEqDiff,↓reduceIte,he];try rfl, by simp only [EV,Nat.reduceEqDiff,↓reduceIte,he];try rfl, by simp only [EV,Nat.reduceEqDiff,↓reduceIte,he];try rfl, by simp only [EV,Nat.reduceEqDiff,↓reduceIte,he];try rfl, by simp only [EV,Nat.reduceEqDiff,↓reduceIte,he];try rfl⟩ ?_
 clear he e
 intro e he
 refine Zab ?_
 refine Za4 (vs := [.raw (.int .i64 3), .raw (sV [97]), .raw (.int .i64 2)]) (cells := [.raw (.int .i64 3), .raw (sV [97]), .lst none 0 0 [], .raw (.int .i64 2), .lst none 0 0 []]) (by simp only [List.map_cons, List.map_nil, EV,Nat.reduceEqDiff,↓reduceIte,he];try rfl) ZaC Zbv rfl ?_
 refine Zab ?_
 refine Zbm (E := 6) (xs := ([⟨3, [97], [], 2, []⟩] : List ZbG)) (vs := [.agg [.raw (.int .i64 3), .raw (sV [97]), .lst none 0 0 [], .raw (.int .i64 2), .lst none 0 0 []]]) (cells := [.raw (.int .i64 3), .raw (sV [97]), .lst none 0 0 [], .raw (.int .i64 2), .lst none 0 0 []]) (by simp only [List.map_cons, List.map_nil, EV,Nat.reduceEqDiff,↓reduceIte,he];try rfl) ZaW Zbw ZaC rfl (by decide) rfl rfl (by decide) (.cons (ZaM.2 rfl) (.cons (Zbj.2 rfl) (.cons Zbk (.cons (ZaM.2 rfl) (.cons Zbk (.none)))))) fun b35 c35 υ35 p35 s35 x35 => ?_
 refine Zdm (fun e => e 1 = .raw (sV Zcb) /\ e 2 = .lst (some ⟨b25, 0, none⟩) 5 5 c25 /\ e 28 = .lst (some ⟨b28, 0, none⟩) 1 1 c28 /\ e 31 = .lst (some ⟨b31, 0, none⟩) 1 1 c31 /\ e 33 = .lst (some ⟨b33, 0, none⟩) 1 1 c33 /\ e 35 = .lst (some ⟨b35, 0, none⟩) 1 1 c35) ⟨by simp only [EV,Nat.reduceEqDiff,↓reduceIte,he];try rfl, by simp only [EV,Nat.reduceEqDiff,↓reduceIte,he];try rfl, by simp only [EV,Nat.reduceEqDiff,↓reduceIte,he];try rfl, by simp only [EV,Nat.reduceEqDiff,↓reduceIte,he];try rfl, by simp only [EV,Nat.reduceEqDiff,↓reduceIte,he];try rfl, by simp only [EV,Nat.reduceEqDiff,↓reduceIte,he];try rfl⟩ ?_
 clear he e
 intro e he
 refine Zab ?_
 refine Za4 (vs := [.raw (.int .i64 3), .raw (sV [98]), .raw (.int .i64 0)]) (cells := [.raw (.int .i64 3), .raw (sV [98]), .lst none 0 0 [], .raw (.int .i64 0), .lst none 0 0 []]) (by simp only [List.map_cons, List.map_nil, EV,Nat.reduceEqDiff,↓reduceIte,he];try rfl) ZaC Zbv rfl ?_
 refine Zab ?_
 refine Zbm (E := 1) (xs := ([11] : List UInt8)) (vs := [.raw (.int .u8 11)]) (cells := bys [11]) (by simp only [List.map_cons, List.map_nil, EV,Nat.reduceEqDiff,↓reduceIte,he];try rfl) Zaw Zbf ZbT rfl (by decide) rfl rfl (by decide) (Ze7 _) fun b37 c37 υ37 p37 s37 x37 => ?_
 refine Zab ?_
 refine Zbm (E := 3) (xs := ([[11]] : List (List UInt8))) (vs := [.lst (some ⟨b37, 0, none⟩) 1 1 c37]) (cells := [.lst (some ⟨b37, 0, none⟩) 1 1 c37]) (by simp only [List.map_cons, List.map_nil, EV,Nat.reduceEqDiff,↓reduceIte,he];try rfl) Zba ZaJ ZcI rfl (by decide) rfl rfl (by decide) (.cons p37 (.none)) fun b38 c38 υ38 p38 s38 x38 => ?_
 refine Zab ?_
 refine Za4 (vs := [.raw (.int .i64 0), .raw (sV [98]), .lst (some ⟨b38, 0, none⟩) 1 1 c38]) (cells := [.raw (.int .i64 0), .raw (sV [98]), .lst none 0 0 [], .raw (.int .i64 0), .lst (some ⟨b38, 0, none⟩) 1 1 c38]) (by simp only [List.map_cons, List.map_nil, EV,Nat.reduceEqDiff,↓reduceIte,he];try rfl) ZaC Zbv rfl ?_
 refine Zab ?_
 refine Zbm (E := 6) (xs := ([⟨3, [98], [], 0, []⟩, ⟨0, [98], [], 0, [[11]]⟩] : List ZbG)) (vs := [.agg [.raw (.int .i64 3), .raw (sV [98]), .lst none 0 0 [], .raw (.int .i64 0), .lst none 0 0 []], .agg [.raw (.int .i64 0), .raw (sV [98]), .lst none 0 0 [], .raw (.int .i64 0), .lst (some ⟨b38, 0, none⟩) 1 1 c38]]) (cells := [.raw (.int .i64 3), .raw (sV [98]), .lst none 0 0 [], .raw (.int .i64 0), .lst none 0 0 [], .raw (.int .i64 0), .raw (sV [98]), .lst none 0 0 [], .raw (.int .i64 0), .lst (some ⟨b38, 0, none⟩) 1 1 c38]) (by simp only [List.map_cons, List.map_nil, EV,Nat.reduceEqDiff,↓reduceIte,he];try rfl) ZaW Zbw ZaC rfl (by decide) rfl rfl (by decide) (.cons (ZaM.2 rfl) (.cons (Zbj.2 rfl) (.cons Zbk (.cons (ZaM.2 rfl) (.cons Zbk (.cons (ZaM.2 rfl) (.cons (Zbj.2 rfl) (.cons Zbk (.cons (ZaM.2 rfl) (.cons p38 (.none))))))))))) fun b40 c40 υ40 p40 s40 x40 => ?_
 refine Zdm (fun e => e 1 = .raw (sV Zcb) /\ e 2 = .lst (some ⟨b25, 0, none⟩) 5 5 c25 /\ e 28 = .lst (some ⟨b28, 0, none⟩) 1 1 c28 /\ e 31 = .lst (some ⟨b31, 0, none⟩) 1 1 c31 /\ e 33 = .lst (some ⟨b33, 0, none⟩) 1 1 c33 /\ e 35 = .lst (some ⟨b35, 0, none⟩) 1 1 c35 /\ e 40 = .lst (some ⟨b40, 0, none⟩) 2 2 c40) ⟨by simp only [EV,Nat.reduceEqDiff,↓reduceIte,he];try rfl, by simp only [EV,Nat.reduceEqDiff,↓reduceIte,he];try rfl, by simp only [EV,Nat.reduceEqDiff,↓reduceIte,he];try rfl, by simp only [EV,Nat.reduceEqDiff,↓reduceIte,he];try rfl, by simp only [EV,Nat.reduceEqDiff,↓reduceIte,he];try rfl, by simp only [EV,Nat.reduceEqDiff,↓reduceIte,he];try rfl, by simp only [EV,Nat.reduceEqDiff,↓reduceIte,he];try rfl⟩ ?_
 clear he e
 intro e he
 refine Zab ?_
 refine Zbm (E := 2) (xs := ([[98]] : List (List UInt8))) (vs := [.raw (sV [98])]) (cells := [.raw (sV [98])]) (by simp only [List.map_cons, List.map_nil, EV,Nat.reduceEqDiff,↓reduceIte,he];try rfl) ZaE Zb3 ZdL rfl (by decide) rfl rfl (by decide) (.cons (Zbj.2 rfl) (.none)) fun b41 c41 υ41 p41 s41 x41 => ?_
 refine Zab ?_
 refine Za4 (vs := [.raw (.int .i64 4), .raw (sV [97]), .lst (some ⟨b41, 0, none⟩) 1 1 c41]) (cells := [.raw (.int .i64 4), .raw (sV [97]), .lst (some ⟨b41, 0, none⟩) 1 1 c41, .raw (.int .i64 0), .lst none 0 0 []]) (by simp only [List.map_cons, List.map_nil, EV,Nat.reduceEqDiff,↓reduceIte,he];try rfl) ZaC Zbv rfl ?_
 refine Zab ?_
 refine Zbm (E := 6) (xs := ([⟨4, [97], [[98]], 0, []⟩] : List ZbG)) (vs := [.agg [.raw (.int .i64 4), .raw (sV [97]), .lst (some ⟨b41, 0, none⟩) 1 1 c41, .raw (.int .i64 0), .lst none 0 0 []]]) (cells := [.raw (.int .i64 4), .raw (sV [97]), .lst (some ⟨b41, 0, none⟩) 1 1 c41, .raw (.int .i64 0), .lst none 0 0 []]) (by simp only [List.map_cons, List.map_nil, EV,Nat.reduceEqDiff,↓reduceIte,he];try rfl) ZaW Zbw ZaC rfl (by decide) rfl rfl (by decide) (.cons (ZaM.2 rfl) (.cons (Zbj.2 rfl) (.cons p41 (.cons (ZaM.2 rfl) (.cons Zbk (.none)))))) fun b43 c43 υ43 p43 s43 x43 => ?_
 refine Zdm (fun e => e 1 = .raw (sV Zcb) /\ e 2 = .lst (some ⟨b25, 0, none⟩) 5 5 c25 /\ e 28 = .lst (some ⟨b28, 0, none⟩) 1 1 c28 /\ e 31 = .lst (some ⟨b31, 0, none⟩) 1 1 c31 /\ e 33 = .lst (some ⟨b33, 0, none⟩) 1 1 c33 /\ e 35 = .lst (some ⟨b35, 0, none⟩) 1 1 c35 /\ e 40 = .lst (some ⟨b40, 0, none⟩) 2 2 c40 /\ e 43 = .lst (some ⟨b43, 0, none⟩) 1 1 c43) ⟨by simp only [EV,Nat.reduceEqDiff,↓reduceIte,he];try rfl, by simp only [EV,Nat.reduceEqDiff,↓reduceIte,he];try rfl, by simp only [EV,Nat.reduceEqDiff,↓reduceIte,he];try rfl, by simp only [EV,Nat.reduceEqDiff,↓reduceIte,he];try rfl, by simp only [EV,Nat.reduceEqDiff,↓reduceIte,he];try rfl, by simp only [EV,Nat.reduceEqDiff,↓reduceIte,he];try rfl, by simp only [EV,Nat.reduceEqDiff,↓reduceIte,he];try rfl, by simp only [EV,Nat.reduceEqDiff,↓reduceIte,he];try rfl⟩ ?_
 clear he e
 intro e he
 refine Zab ?_
 refine Zbm (E := 2) (xs := ([[97]] : List (List UInt8))) (vs := [.raw (sV [97])]) (cells := [.raw (sV [97])]) (by simp only [List.map_cons, List.map_nil, EV,Nat.reduceEqDiff,↓reduceIte,he];try rfl) ZaE Zb3 ZdL rfl (by decide) rfl rfl (by decide) (.cons (Zbj.2 rfl) (.none)) fun b44 c44 υ44 p44 s44 x44 => ?_
 refine Zab ?_
 refine Za4 (vs := [.raw (.int .i64 4), .raw (sV [97]), .lst (some ⟨b44, 0, none⟩) 1 1 c44]) (cells := [.raw (.int .i64 4), .raw (sV [97]), .lst (some ⟨b44, 0, none⟩) 1 1 c44, .raw (.int .i64 0), .lst none 0 0 []]) (by simp only [List.map_cons, List.map_nil, EV,Nat.reduceEqDiff,↓reduceIte,he];try rfl) ZaC Zbv rfl ?_
 refine Zab ?_
 refine Zbm (E := 6) (xs := ([⟨4, [97], [[97]], 0, []⟩] : List ZbG)) (vs := [.agg [.raw (.int .i64 4), .raw (sV [97]), .lst (some ⟨b44, 0, none⟩) 1 1 c44, .raw (.int .i64 0), .lst none 0 0 []]]) (cells := [.raw (.int .i64 4), .raw (sV [97]), .lst (some ⟨b44, 0, none⟩) 1 1 c44, .raw (.int .i64 0), .lst none 0 0 []]) (by simp only [List.map_cons, List.map_nil, EV,Nat.reduceEqDiff,↓reduceIte,he];try rfl) ZaW Zbw ZaC rfl (by decide) rfl rfl (by decide) (.cons (ZaM.2 rfl) (.cons (Zbj.2 rfl) (.cons p44 (.cons (ZaM.2 rfl) (.cons Zbk (.none)))))) fun b46 c46 υ46 p46 s46 x46 => ?_
 refine Zdm (fun e => e 1 = .raw (sV Zcb) /\ e 2 = .lst (some ⟨b25, 0, none⟩) 5 5 c25 /\ e 28 = .lst (some ⟨b28, 0, none⟩) 1 1 c28 /\ e 31 = .lst (some ⟨b31, 0, none⟩) 1 1 c31 /\ e 33 = .lst (some ⟨b33, 0, none⟩) 1 1 c33 /\ e 35 = .lst (some ⟨b35, 0, none⟩) 1 1 c35 /\ e 40 = .lst (some ⟨b40, 0, none⟩) 2 2 c40 /\ e 43 = .lst (some ⟨b43, 0, none⟩) 1 1 c43 /\ e 46 = .lst (some ⟨b46, 0, none⟩) 1 1 c46) ⟨by simp only [EV,Nat.reduceEqDiff,↓reduceIte,he];try rfl, by simp only [EV,Nat.reduceEqDiff,↓reduceIte,he];try rfl, by simp only [EV,Nat.reduceEqDiff,↓reduceIte,he];try rfl, by simp only [EV,Nat.reduceEqDiff,↓reduceIte,he];try rfl, by simp only [EV,Nat.reduceEqDiff,↓reduceIte,he];try rfl, by simp only [EV,Nat.reduceEqDiff,↓reduceIte,he];try rfl, by simp only [EV,Nat.reduceEqDiff,↓reduceIte,he];try rfl, by simp only [EV,Nat.reduceEqDiff,↓reduceIte,he];try rfl, by simp only [EV,Nat.reduceEqDiff,↓reduceIte,he];try rfl⟩ ?_
 clear he e
 intro e he
 refine Zab ?_
 refine Zbm (E := 2) (xs := ([[122]] : List (List UInt8))) (vs := [.raw (sV [122])]) (cells := [.raw (sV [122])]) (by simp only [List.map_cons, List.map_nil, EV,Nat.reduceEqDiff,↓reduceIte,he];try rfl) ZaE Zb3 ZdL rfl (by decide) rfl rfl (by decide) (.cons (Zbj.2 rfl) (.none)) fun b47 c47 υ47 p47 s47 x47 => ?_
 refine Zab ?_
 refine Za4 (vs := [.raw (.int .i64 4), .raw (sV [98]), .lst (some ⟨b47, 0, none⟩) 1 1 c47]) (cells := [.raw (.int .i64 4), .raw (sV [98]), .lst (some ⟨b47, 0, none⟩) 1 1 c47, .raw (.int .i64 0), .lst none 0 0 []]) (by simp only [List.map_cons, List.map_nil, EV,Nat.reduceEqDiff,↓reduceIte,he];try rfl) ZaC Zbv rfl ?_
 refine Zab ?_
 refine Zbm (E := 1) (xs := ([12, 13] : List UInt8)) (vs := [.raw (.int .u8 12), .raw (.int .u8 13)]) (cells := bys [12, 13]) (by simp only [List.map_cons, List.map_nil, EV,Nat.reduceEqDiff,↓reduceIte,he];try rfl) Zaw Zbf ZbT rfl (by decide) rfl rfl (by decide) (Ze7 _) fun b49 c49 υ49 p49 s49 x49 => ?_
 refine Zab ?_
 refine Zbm (E := 3) (xs := ([[12, 13]] : List (List UInt8))) (vs := [.lst (some ⟨b49, 0, none⟩) 2 2 c49]) (cells := [.lst (some ⟨b49, 0, none⟩) 2 2 c49]) (by simp only [List.map_cons, List.map_nil, EV,Nat.reduceEqDiff,↓reduceIte,he];try rfl) Zba ZaJ ZcI rfl (by decide) rfl rfl (by decide) (.cons p49 (.none)) fun b50 c50 υ50 p50 s50 x50 => ?_
 refine Zab ?_
 refine Za4 (vs := [.raw (.int .i64 0), .raw (sV [98]), .lst (some ⟨b50, 0, none⟩) 1 1 c50]) (cells := [.raw (.int .i64 0), .raw (sV [98]), .lst none 0 0 [], .raw (.int .i64 0), .lst (some ⟨b50, 0, none⟩) 1 1 c50]) (by simp only [List.map_cons, List.map_nil, EV,Nat.reduceEqDiff,↓reduceIte,he];try rfl) ZaC Zbv rfl ?_
 refine Zab ?_
 refine Zbm (E := 6) (xs := ([⟨4, [98], [[122]], 0, []⟩, ⟨0, [98], [], 0, [[12, 13]]⟩] : List ZbG)) (vs := [.agg [.raw (.int .i64 4), .raw (sV [98]), .lst (some ⟨b47, 0, none⟩) 1 1 c47, .raw (.int .i64 0), .lst none 0 0 []], .agg [.raw (.int .i64 0), .raw (sV [98]), .lst none 0 0 [], .raw (.int .i64 0), .lst (some ⟨b50, 0, none⟩) 1 1 c50]]) (cells := [.raw (.int .i64 4), .raw (sV [98]), .lst (some ⟨b47, 0, none⟩) 1 1 c47, .raw (.int .i64 0), .lst none 0 0 [], .raw (.int .i64 0), .raw (sV [98]), .lst none 0 0 [], .raw (.int .i64 0), .lst (some ⟨b50, 0, none⟩) 1 1 c50]) (by simp only [List.map_cons, List.map_nil, EV,Nat.reduceEqDiff,↓reduceIte,he];try rfl) ZaW Zbw ZaC rfl (by decide) rfl rfl (by decide) (.cons (ZaM.2 rfl) (.cons (Zbj.2 rfl) (.cons p47 (.cons (ZaM.2 rfl) (.cons Zbk (.cons (ZaM.2 rfl) (.cons (Zbj.2 rfl) (.cons Zbk (.cons (ZaM.2 rfl) (.cons p50 (.none))))))))))) fun b52 c52 υ52 p52 s52 x52 => ?_
 refine Zdm (fun e => e 1 = .raw (sV Zcb) /\ e 2 = .lst (some ⟨b25, 0, none⟩) 5 5 c25 /\ e 28 = .lst (some ⟨b28, 0, none⟩) 1 1 c28 /\ e 31 = .lst (some ⟨b31, 0, none⟩) 1 1 c31 /\ e 33 = .lst (some ⟨b33, 0, none⟩) 1 1 c33 /\ e 35 = .lst (some ⟨b35, 0, none⟩) 1 1 c35 /\ e 40 = .lst (some ⟨b40, 0, none⟩) 2 2 c40 /\ e 43 = .lst (some ⟨b43, 0, none⟩) 1 1 c43 /\ e 46 = .lst (some ⟨b46, 0, none⟩) 1 1 c46 /\ e 52 = .lst (some ⟨b52, 0, none⟩) 2 2 c52) ⟨by simp only [EV,Nat.reduceEqDiff,↓reduceIte,he];try rfl, by simp only [EV,Nat.reduceEqDiff,↓reduceIte,he];try rfl, by simp only [EV,Nat.reduceEqDiff,↓reduceIte,he];try rfl, by simp only [EV,Nat.reduceEqDiff,↓reduceIte,he];try rfl, by simp only [EV,Nat.reduceEqDiff,↓reduceIte,he];try rfl, by simp only [EV,Nat.reduceEqDiff,↓reduceIte,he];try rfl, by simp only [EV,Nat.reduceEqDiff,↓reduceIte,he];try rfl, by simp only [EV,Nat.reduceEqDiff,↓reduceIte,he];try rfl, by simp only [EV,Nat.reduceEqDiff,↓reduceIte,he];try rfl, by simp only [EV,Nat.reduceEqDiff,↓reduceIte,he];try rfl⟩ ?_
 clear he e
 intro e he
 refine Zab ?_
 refine Zbm (E := 2) (xs := ([[97], [110, 111, 110, 101], [98]] : List (List UInt8))) (vs := [.raw (sV [97]), .raw (sV [110, 111, 110, 101]), .raw (sV [98])]) (cells := [.raw (sV [97]), .raw (sV [110, 111, 110, 101]), .raw (sV [98])]) (by simp only [List.map_cons, List.map_nil, EV,Nat.reduceEqDiff,↓reduceIte,he];try rfl) ZaE Zb3 ZdL rfl (by decide) rfl rfl (by decide) (.cons (Zbj.2 rfl) (.cons (Zbj.2 rfl) (.cons (Zbj.2 rfl) (.none)))) fun b53 c53 υ53 p53 s53 x53 => ?_
 refine Zab ?_
 refine Za4 (vs := [.raw (.int .i64 5), .lst (some ⟨b53, 0, none⟩) 3 3 c53]) (cells := [.raw (.int .i64 5), .raw (sV []), .lst (some ⟨b53, 0, none⟩) 3 3 c53, .raw (.int .i64 0), .lst none 0 0 []]) (by simp only [List.map_cons, List.map_nil, EV,Nat.reduceEqDiff,↓reduceIte,he];try rfl) ZaC Zbv rfl ?_
 refine Zab ?_
 refine Zbm (E := 6) (xs := ([⟨5, [], [[97], [110, 111, 110, 101], [98]], 0, []⟩] : List ZbG)) (vs := [.agg [.raw (.int .i64 5), .raw (sV []), .lst (some ⟨b53, 0, none⟩) 3 3 c53, .raw (.int .i64 0), .lst none 0 0 []]]) (cells := [.raw (.int .i64 5), .raw (sV []), .lst (some ⟨b53, 0, none⟩) 3 3 c53, .raw (.int .i64 0), .lst none 0 0 []]) (by simp only [List.map_cons, List.map_nil, EV,Nat.reduceEqDiff,↓reduceIte,he];try rfl) ZaW Zbw ZaC rfl (by decide) rfl rfl (by decide) (.cons (ZaM.2 rfl) (.cons (Zbj.2 rfl) (.cons p53 (.cons (ZaM.2 rfl) (.cons Zbk (.none)))))) fun b55 c55 υ55 p55 s55 x55 => ?_
 refine Zdm (fun e => e 1 = .raw (sV Zcb) /\ e 2 = .lst (some ⟨b25, 0, none⟩) 5 5 c25 /\ e 28 = .lst (some ⟨b28, 0, none⟩) 1 1 c28 /\ e 31 = .lst (some ⟨b31, 0, none⟩) 1 1 c31 /\ e 33 = .lst (some ⟨b33, 0, none⟩) 1 1 c33 /\ e 35 = .lst (some ⟨b35, 0, none⟩) 1 1 c35 /\ e 40 = .lst (some ⟨b40, 0, none⟩) 2 2 c40 /\ e 43 = .lst (some ⟨b43, 0, none⟩) 1 1 c43 /\ e 46 = .lst (some ⟨b46, 0, none⟩) 1 1 c46 /\ e 52 = .lst (some ⟨b52, 0, none⟩) 2 2 c52 /\ e 55 = .lst (some ⟨b55, 0, none⟩) 1 1 c55) ⟨by simp only [EV,Nat.reduceEqDiff,↓reduceIte,he];try rfl, by simp only [EV,Nat.reduceEqDiff,↓reduceIte,he];try rfl, by simp only [EV,Nat.reduceEqDiff,↓reduceIte,he];try rfl, by simp only [EV,Nat.reduceEqDiff,↓reduceIte,he];try rfl, by simp only [EV,Nat.reduceEqDiff,↓reduceIte,he];try rfl, by simp only [EV,Nat.reduceEqDiff,↓reduceIte,he];try rfl, by simp only [EV,Nat.reduceEqDiff,↓reduceIte,he];try rfl, by simp only [EV,Nat.reduceEqDiff,↓reduceIte,he];try rfl, by simp only [EV,Nat.reduceEqDiff,↓reduceIte,he];try rfl, by simp only [EV,Nat.reduceEqDiff,↓reduceIte,he];try rfl, by simp only [EV,Nat.reduceEqDiff,↓reduceIte,he];try rfl⟩ ?_
 clear he e
 intro e he
 refine Zab ?_
 refine Zbm (E := 2) (xs := ([[]] : List (List UInt8))) (vs := [.raw (sV [])]) (cells := [.raw (sV [])]) (by simp only [List.map_cons, List.map_nil, EV,Nat.reduceEqDiff,↓reduceIte,he];try rfl) ZaE Zb3 ZdL rfl (by decide) rfl rfl (by decide) (.cons (Zbj.2 rfl) (.none)) fun b56 c56 υ56 p56 s56 x56 => ?_
 refine Zab ?_
 refine Za4 (vs := [.raw (.int .i64 4), .raw (sV [110, 111, 110, 101]), .lst (some ⟨b56, 0, none⟩) 1 1 c56]) (cells := [.raw (.int .i64 4), .raw (sV [110, 111, 110, 101]), .lst (some ⟨b56, 0, none⟩) 1 1 c56, .raw (.int .i64 0), .lst none 0 0 []]) (by simp only [List.map_cons, List.map_nil, EV,Nat.reduceEqDiff,↓reduceIte,he];try rfl) ZaC Zbv rfl ?_
 refine Zab ?_
 refine Zbm (E := 6) (xs := ([⟨4, [110, 111, 110, 101], [[]], 0, []⟩] : List ZbG)) (vs := [.agg [.raw (.int .i64 4), .raw (sV [110, 111, 110, 101]), .lst (some ⟨b56, 0, none⟩) 1 1 c56, .raw (.int .i64 0), .lst none 0 0 []]]) (cells := [.raw (.int .i64 4), .raw (sV [110, 111, 110, 101]), .lst (some ⟨b56, 0, none⟩) 1 1 c56, .raw (.int .i64 0), .lst none 0 0 []]) (by simp only [List.map_cons, List.map_nil, EV,Nat.reduceEqDiff,↓reduceIte,he];try rfl) ZaW Zbw ZaC rfl (by decide) rfl rfl (by decide) (.cons (ZaM.2 rfl) (.cons (Zbj.2 rfl) (.cons p56 (.cons (ZaM.2 rfl) (.cons Zbk (.none)))))) fun b58 c58 υ58 p58 s58 x58 => ?_
 refine Zdm (fun e => e 1 = .raw (sV Zcb) /\ e 2 = .lst (some ⟨b25, 0, none⟩) 5 5 c25 /\ e 28 = .lst (some ⟨b28, 0, none⟩) 1 1 c28 /\ e 31 = .lst (some ⟨b31, 0, none⟩) 1 1 c31 /\ e 33 = .lst (some ⟨b33, 0, none⟩) 1 1 c33 /\ e 35 = .lst (some ⟨b35, 0, none⟩) 1 1 c35 /\ e 40 = .lst (some ⟨b40, 0, none⟩) 2 2 c40 /\ e 43 = .lst (some ⟨b43, 0, none⟩) 1 1 c43 /\ e 46 = .lst (some ⟨b46, 0, none⟩) 1 1 c46 /\ e 52 = .lst (some ⟨b52, 0, none⟩) 2 2 c52 /\ e 55 = .lst (some ⟨b55, 0, none⟩) 1 1 c55 /\ e 58 = .lst (some ⟨b58, 0, none⟩) 1 1 c58) ⟨by simp only [EV,Nat.reduceEqDiff,↓reduceIte,he];try rfl, by simp only [EV,Nat.reduceEqDiff,↓reduceIte,he];try rfl, by simp only [EV,Nat.reduceEqDiff,↓reduceIte,he];try rfl, by simp only [EV,Nat.reduceEqDiff,↓reduceIte,he];try rfl, by simp only [EV,Nat.reduceEqDiff,↓reduceIte,he];try rfl, by simp only [EV,Nat.reduceEqDiff,↓reduceIte,he];try rfl, by simp only [EV,Nat.reduceEqDiff,↓reduceIte,he];try rfl, by simp only [EV,Nat.reduceEqDiff,↓reduceIte,he];try rfl, by simp only [EV,Nat.reduceEqDiff,↓reduceIte,he];try rfl, by simp only [EV,Nat.reduceEqDiff,↓reduceIte,he];try rfl, by simp only [EV,Nat.reduceEqDiff,↓reduceIte,he];try rfl, by simp only [EV,Nat.reduceEqDiff,↓reduceIte,he];try rfl⟩ ?_
 clear he e
 intro e he
 refine Zab (Zae rfl he.1 ?_)
 refine Zab ?_
 refine Zkp (a := Zcb) (c := [120]) rfl rfl (by decide) ?_
 refine Zab ?_
 refine Zbm (E := 2) (xs := ([(Zcb ++ [120])] : List (List UInt8))) (vs := [.raw (sV (Zcb ++ [120]))]) (cells := [.raw (sV (Zcb ++ [120]))]) (by simp only [List.map_cons, List.map_nil, EV,Nat.reduceEqDiff,↓reduceIte,he];try rfl) ZaE Zb3 ZdL rfl (by decide) rfl rfl (by decide) (.cons (Zbj.2 rfl) (.none)) fun b61 c61 υ61 p61 s61 x61 => ?_
 refine Zab ?_
 refine Za4 (vs := [.raw (.int .i64 4), .raw (sV [97]), .lst (some ⟨b61, 0, none⟩) 1 1 c61]) (cells := [.raw (.int .i64 4), .raw (sV [97]), .lst (some ⟨b61, 0, none⟩) 1 1 c61, .raw (.int .i64 0), .lst none 0 0 []]) (by simp only [List.map_cons, List.map_nil, EV,Nat.reduceEqDiff,↓reduceIte,he];try rfl) ZaC Zbv rfl ?_
 refine Zab ?_
 refine Zbm (E := 6) (xs := ([⟨4, [97], [(Zcb ++ [120])], 0, []⟩] : List ZbG)) (vs := [.agg [.raw (.int .i64 4), .raw (sV [97]), .lst (some ⟨b61, 0, none⟩) 1 1 c61, .raw (.int .i64 0), .lst none 0 0 []]]) (cells := [.raw (.int .i64 4), .raw (sV [97]), .lst (some ⟨b61, 0, none⟩) 1 1 c61, .raw (.int .i64 0), .lst none 0 0 []]) (by simp only [List.map_cons, List.map_nil, EV,Nat.reduceEqDiff,↓reduceIte,he];try rfl) ZaW Zbw ZaC rfl (by decide) rfl rfl (by decide) (.cons (ZaM.2 rfl) (.cons (Zbj.2 rfl) (.cons p61 (.cons (ZaM.2 rfl) (.cons Zbk (.none)))))) fun b63 c63 υ63 p63 s63 x63 => ?_
 refine Zdm (fun e => e 1 = .raw (sV Zcb) /\ e 2 = .lst (some ⟨b25, 0, none⟩) 5 5 c25 /\ e 28 = .lst (some ⟨b28, 0, none⟩) 1 1 c28 /\ e 31 = .lst (some ⟨b31, 0, none⟩) 1 1 c31 /\ e 33 = .lst (some ⟨b33, 0, none⟩) 1 1 c33 /\ e 35 = .lst (some ⟨b35, 0, none⟩) 1 1 c35 /\ e 40 = .lst (some ⟨b40, 0, none⟩) 2 2 c40 /\ e 43 = .lst (some ⟨b43, 0, none⟩) 1 1 c43 /\ e 46 = .lst (some ⟨b46, 0, none⟩) 1 1 c46 /\ e 52 = .lst (some ⟨b52, 0, none⟩) 2 2 c52 /\ e 55 = .lst (some ⟨b55, 0, none⟩) 1 1 c55 /\ e 58 = .lst (some ⟨b58, 0, none⟩) 1 1 c58 /\ e 63 = .lst (some ⟨b63, 0, none⟩) 1 1 c63) ⟨by simp only [EV,Nat.reduceEqDiff,↓reduceIte,he];try rfl, by simp only [EV,Nat.reduceEqDiff,↓reduceIte,he];try rfl, by simp only [EV,Nat.reduceEqDiff,↓reduceIte,he];try rfl, by simp only [EV,Nat.reduceEqDiff,↓reduceIte,he];try rfl, by simp only [EV,Nat.reduceEqDiff,↓reduceIte,he];try rfl, by simp only [EV,Nat.reduceEqDiff,↓reduceIte,he];try rfl, by simp only [EV,Nat.reduceEqDiff,↓reduceIte,he];try rfl, by simp only [EV,Nat.reduceEqDiff,↓reduceIte,he];try rfl, by simp only [EV,Nat.reduceEqDiff,↓reduceIte,he];try rfl, by simp only [EV,Nat.reduceEqDiff,↓reduceIte,he];try rfl, by simp only [EV,Nat.reduceEqDiff,↓reduceIte,he];try rfl, by simp only [EV,Nat.reduceEqDiff,↓reduceIte,he];try rfl, by simp only [EV,Nat.reduceEqDiff,↓reduceIte,he];try rfl⟩ ?_
 clear he e
 intro e he
 refine Zab ?_
 refine Za4 (vs := [.raw (.int .i64 3), .raw (sV [97]), .raw (.int .i64 6)]) (cells := [.raw (.int .i64 3), .raw (sV [97]), .lst none 0 0 [], .raw (.int .i64 6), .lst none 0 0 []]) (by simp only [List.map_cons, List.map_nil, EV,Nat.reduceEqDiff,↓reduceIte,he];try rfl) ZaC Zbv rfl ?_
 refine Zab ?_
 refine Zbm (E := 6) (xs := ([⟨3, [97], [], 6, []⟩] : List ZbG)) (vs := [.agg [.raw (.int .i64 3), .raw (sV [97]), .lst none 0 0 [], .raw (.int .i64 6), .lst none 0 0 []]]) (cells := [.raw (.int .i64 3), .raw (sV [97]), .lst none 0 0 [], .raw (.int .i64 6), .lst none 0 0 []]) (by simp only [List.map_cons, List.map_nil, EV,Nat.reduceEqDiff,↓reduceIte,he];try rfl) ZaW Zbw ZaC rfl (by decide) rfl rfl (by decide) (.cons (ZaM.2 rfl) (.cons (Zbj.2 rfl) (.cons Zbk (.cons (ZaM.2 rfl) (.cons Zbk (.none)))))) fun b65 c65 υ65 p65 s65 x65 => ?_
 refine Zdm (fun e => e 1 = .raw (sV Zcb) /\ e 2 = .lst (some ⟨b25, 0, none⟩) 5 5 c25 /\ e 28 = .lst (some ⟨b28, 0, none⟩) 1 1 c28 /\ e 31 = .lst (some ⟨b31, 0, none⟩) 1 1 c31 /\ e 33 = .lst (some ⟨b33, 0, none⟩) 1 1 c33 /\ e 35 = .lst (some ⟨b35, 0, none⟩) 1 1 c35 /\ e 40 = .lst (some ⟨b40, 0, none⟩) 2 2 c40 /\ e 43 = .lst (some ⟨b43, 0, none⟩) 1 1 c43 /\ e 46 = .lst (some ⟨b46, 0, none⟩) 1 1 c46 /\ e 52 = .lst (some ⟨b52, 0, none⟩) 2 2 c52 /\ e 55 = .lst (some ⟨b55, 0, none⟩) 1 1 c55 /\ e 58 = .lst (some ⟨b58, 0, none⟩) 1 1 c58 /\ e 63 = .lst (some ⟨b63, 0, none⟩) 1 1 c63 /\ e 65 = .lst (some ⟨b65, 0, none⟩) 1 1 c65) ⟨by simp only [EV,Nat.reduceEqDiff,↓reduceIte,he];try rfl, by simp only [EV,Nat.reduceEqDiff,↓reduceIte,he];try rfl, by simp only [EV,Nat.reduceEqDiff,↓reduceIte,he];try rfl, by simp only [EV,Nat.reduceEqDiff,↓reduceIte,he];try rfl, by simp only [EV,Nat.reduceEqDiff,↓reduceIte,he];try rfl, by simp only [EV,Nat.reduceEqDiff,↓reduceIte,he];try rfl, by simp only [EV,Nat.reduceEqDiff,↓reduceIte,he];try rfl, by simp only [EV,Nat.reduceEqDiff,↓reduceIte,he];try rfl, by simp only [EV,Nat.reduceEqDiff,↓reduceIte,he];try rfl, by simp only [EV,Nat.reduceEqDiff,↓reduceIte,he];try rfl, by simp only [EV,Nat.reduceEqDiff,↓reduceIte,he];try rfl, by simp only [EV,Nat.reduceEqDiff,↓reduceIte,he];try rfl, by simp only [EV,Nat.reduceEqDiff,↓reduceIte,he];try rfl, by simp only [EV,Nat.reduceEqDiff,↓reduceIte,he];try rfl⟩ ?_
 clear he e
 intro e he
 refine Zab ?_
 refine Za4 (vs := [.raw (.int .i64 3), .raw (sV [97]), .raw (.int .i64 (-1))]) (cells := [.raw (.int .i64 3), .raw (sV [97]), .lst none 0 0 [], .raw (.int .i64 (-1)), .lst none 0 0 []]) (by simp only [List.map_cons, List.map_nil, EV,Nat.reduceEqDiff,↓reduceIte,he];try rfl) ZaC Zbv rfl ?_
 refine Zab ?_
 refine Zbm (E := 6) (xs := ([⟨3, [97], [], -1, []⟩] : List ZbG)) (vs := [.agg [.raw (.int .i64 3), .raw (sV [97]), .lst none 0 0 [], .raw (.int .i64 (-1)), .lst none 0 0 []]]) (cells := [.raw (.int .i64 3), .raw (sV [97]), .lst none 0 0 [], .raw (.int .i64 (-1)), .lst none 0 0 []]) (by simp only [List.map_cons, List.map_nil, EV,Nat.reduceEqDiff,↓reduceIte,he];try rfl) ZaW Zbw ZaC rfl (by decide) rfl rfl (by decide) (.cons (ZaM.2 rfl) (.cons (Zbj.2 rfl) (.cons Zbk (.cons (ZaM.2 rfl) (.cons Zbk (.none)))))) fun b67 c67 υ67 p67 s67 x67 => ?_
 refine Zdm (fun e => e 1 = .raw (sV Zcb) /\ e 2 = .lst (some ⟨b25, 0, none⟩) 5 5 c25 /\ e 28 = .lst (some ⟨b28, 0, none⟩) 1 1 c28 /\ e 31 = .lst (some ⟨b31, 0, none⟩) 1 1 c31 /\ e 33 = .lst (some ⟨b33, 0, none⟩) 1 1 c33 /\ e 35 = .lst (some ⟨b35, 0, none⟩) 1 1 c35 /\ e 40 = .lst (some ⟨b40, 0, none⟩) 2 2 c40 /\ e 43 = .lst (some ⟨b43, 0, none⟩) 1 1 c43 /\ e 46 = .lst (some ⟨b46, 0, none⟩) 1 1 c46 /\ e 52 = .lst (some ⟨b52, 0, none⟩) 2 2 c52 /\ e 55 = .lst (some ⟨b55, 0, none⟩) 1 1 c55 /\ e 58 = .lst (some ⟨b58, 0, none⟩) 1 1 c58 /\ e 63 = .lst (some ⟨b63, 0, none⟩) 1 1 c63 /\ e 65 = .lst (some ⟨b65, 0, none⟩) 1 1 c65 /\ e 67 = .lst (some ⟨b67, 0, none⟩) 1 1 c67) ⟨by simp only [EV,Nat.reduceEqDiff,↓reduceIte,he];try rfl, by simp only [EV,Nat.reduceEqDiff,↓reduceIte,he];try rfl, by simp only [EV,Nat.reduceEqDiff,↓reduceIte,he];try rfl, by simp only [EV,Nat.reduceEqDiff,↓reduceIte,he];try rfl, by simp only [EV,Nat.reduceEqDiff,↓reduceIte,he];try rfl, by simp only [EV,Nat.reduceEqDiff,↓reduceIte,he];try rfl, by simp only [EV,Nat.reduceEqDiff,↓reduceIte,he];try rfl, by simp only [EV,Nat.reduceEqDiff,↓reduceIte,he];try rfl, by simp only [EV,Nat.reduceEqDiff,↓reduceIte,he];try rfl, by simp only [EV,Nat.reduceEqDiff,↓reduceIte,he];try rfl, by simp only [EV,Nat.reduceEqDiff,↓reduceIte,he];try rfl, by simp only [EV,Nat.reduceEqDiff,↓reduceIte,he];try rfl, by simp only [EV,Nat.reduceEqDiff,↓reduceIte,he];try rfl, by simp only [EV,Nat.reduceEqDiff,↓reduceIte,he];try rfl, by simp only [EV,Nat.reduceEqDiff,↓reduceIte,he];try rfl⟩ ?_
 clear he e
 intro e he
 refine Zab ?_
 refine Za4 (vs := [.raw (.int .i64 3), .raw (sV [110, 111, 110, 101])]) (cells := [.raw (.int .i64 3), .raw (sV [110, 111, 110, 101]), .lst none 0 0 [], .raw (.int .i64 0), .lst none 0 0 []]) (by simp only [List.map_cons, List.map_nil, EV,Nat.reduceEqDiff,↓reduceIte,he];try rfl) ZaC Zbv rfl ?_
 refine Zab ?_
 refine Zbm (E := 6) (xs := ([⟨3, [110, 111, 110, 101], [], 0, []⟩] : List ZbG)) (vs := [.agg [.raw (.int .i64 3), .raw (sV [110, 111, 110, 101]), .lst none 0 0 [], .raw (.int .i64 0), .lst none 0 0 []]]) (cells := [.raw (.int .i64 3), .raw (sV [110, 111, 110, 101]), .lst none 0 0 [], .raw (.int .i64 0), .lst none 0 0 []]) (by simp only [List.map_cons, List.map_nil, EV,Nat.reduceEqDiff,↓reduceIte,he];try rfl) ZaW Zbw ZaC rfl (by decide) rfl rfl (by decide) (.cons (ZaM.2 rfl) (.cons (Zbj.2 rfl) (.cons Zbk (.cons (ZaM.2 rfl) (.cons Zbk (.none)))))) fun b69 c69 υ69 p69 s69 x69 => ?_
 refine Zdm (fun e => e 1 = .raw (sV Zcb) /\ e 2 = .lst (some ⟨b25, 0, none⟩) 5 5 c25 /\ e 28 = .lst (some ⟨b28, 0, none⟩) 1 1 c28 /\ e 31 = .lst (some ⟨b31, 0, none⟩) 1 1 c31 /\ e 33 = .lst (some ⟨b33, 0, none⟩) 1 1 c33 /\ e 35 = .lst (some ⟨b35, 0, none⟩) 1 1 c35 /\ e 40 = .lst (some ⟨b40, 0, none⟩) 2 2 c40 /\ e 43 = .lst (some ⟨b43, 0, none⟩) 1 1 c43 /\ e 46 = .lst (some ⟨b46, 0, none⟩) 1 1 c46 /\ e 52 = .lst (some ⟨b52, 0, none⟩) 2 2 c52 /\ e 55 = .lst (some ⟨b55, 0, none⟩) 1 1 c55 /\ e 58 = .lst (some ⟨b58, 0, none⟩) 1 1 c58 /\ e 63 = .lst (some ⟨b63, 0, none⟩) 1 1 c63 /\ e 65 = .lst (some ⟨b65, 0, none⟩) 1 1 c65 /\ e 67 = .lst (some ⟨b67, 0, none⟩) 1 1 c67 /\ e 69 = .lst (some ⟨b69, 0, none⟩) 1 1 c69) ⟨by simp only [EV,Nat.reduceEqDiff,↓reduceIte,he];try rfl, by simp only [EV,Nat.reduceEqDiff,↓reduceIte,he];try rfl, by simp only [EV,Nat.reduceEqDiff,↓reduceIte,he];try rfl, by simp only [EV,Nat.reduceEqDiff,↓reduceIte,he];try rfl, by simp only [EV,Nat.reduceEqDiff,↓reduceIte,he];try rfl, by simp only [EV,Nat.reduceEqDiff,↓reduceIte,he];try rfl, by simp only [EV,Nat.reduceEqDiff,↓reduceIte,he];try rfl, by simp only [EV,Nat.reduceEqDiff,↓reduceIte,he];try rfl, by simp only [EV,Nat.reduceEqDiff,↓reduceIte,he];try rfl, by simp only [EV,Nat.reduceEqDiff,↓reduceIte,he];try rfl, by simp only [EV,Nat.reduceEqDiff,↓reduceIte,he];try rfl, by simp only [EV,Nat.reduceEqDiff,↓reduceIte,he];try rfl, by simp only [EV,Nat.reduceEqDiff,↓reduceIte,he];try rfl, by simp only [EV,Nat.reduceEqDiff,↓reduceIte,he];try rfl, by simp only [EV,Nat.reduceEqDiff,↓reduceIte,he];try rfl, by simp only [EV,Nat.reduceEqDiff,↓reduceIte,he];try rfl⟩ ?_
 clear he e
 intro e he
 refine Zab ?_
 refine Za4 (vs := [.raw (.int .i64 0), .raw (sV [])]) (cells := [.raw (.int .i64 0), .raw (sV []), .lst none 0 0 [], .raw (.int .i64 0), .lst none 0 0 []]) (by simp only [List.map_cons, List.map_nil, EV,Nat.reduceEqDiff,↓reduceIte,he];try rfl) ZaC Zbv rfl ?_
 refine Zab ?_
 refine Zbm (E := 6) (xs := ([⟨0, [], [], 0, []⟩] : List ZbG)) (vs := [.agg [.raw (.int .i64 0), .raw (sV []), .lst none 0 0 [], .raw (.int .i64 0), .lst none 0 0 []]]) (cells := [.raw (.int .i64 0), .raw (sV []), .lst none 0 0 [], .raw (.int .i64 0), .lst none 0 0 []]) (by simp only [List.map_cons, List.map_nil, EV,Nat.reduceEqDiff,↓reduceIte,he];try rfl) ZaW Zbw ZaC rfl (by decide) rfl rfl (by decide) (.cons (ZaM.2 rfl) (.cons (Zbj.2 rfl) (.cons Zbk (.cons (ZaM.2 rfl) (.cons Zbk (.none)))))) fun b71 c71 υ71 p71 s71 x71 => ?_
 refine Zdm (fun e => e 1 = .raw (sV Zcb) /\ e 2 = .lst (some ⟨b25, 0, none⟩) 5 5 c25 /\ e 28 = .lst (some ⟨b28, 0, none⟩) 1 1 c28 /\ e 31 = .lst (some ⟨b31, 0, none⟩) 1 1 c31 /\ e 33 = .lst (some ⟨b33, 0, none⟩) 1 1 c33 /\ e 35 = .lst (some ⟨b35, 0, none⟩) 1 1 c35 /\ e 40 = .lst (some ⟨b40, 0, none⟩) 2 2 c40 /\ e 43 = .lst (some ⟨b43, 0, none⟩) 1 1 c43 /\ e 46 = .lst (some ⟨b46, 0, none⟩) 1 1 c46 /\ e 52 = .lst (some ⟨b52, 0, none⟩) 2 2 c52 /\ e 55 = .lst (some ⟨b55, 0, none⟩) 1 1 c55 /\ e 58 = .lst (some ⟨b58, 0, none⟩) 1 1 c58 /\ e 63 = .lst (some ⟨b63, 0, none⟩) 1 1 c63 /\ e 65 = .lst (some ⟨b65, 0, none⟩) 1 1 c65 /\ e 67 = .lst (some ⟨b67, 0, none⟩) 1 1 c67 /\ e 69 = .lst (some ⟨b69, 0, none⟩) 1 1 c69 /\ e 71 = .lst (some ⟨b71, 0, none⟩) 1 1 c71) ⟨by simp only [EV,Nat.reduceEqDiff,↓reduceIte,he];try rfl, by simp only [EV,Nat.reduceEqDiff,↓reduceIte,he];try rfl, by simp only [EV,Nat.reduceEqDiff,↓reduceIte,he];try rfl, by simp only [EV,Nat.reduceEqDiff,↓reduceIte,he];try rfl, by simp only [EV,Nat.reduceEqDiff,↓reduceIte,he];try rfl, by simp only [EV,Nat.reduceEqDiff,↓reduceIte,he];try rfl, by simp only [EV,Nat.reduceEqDiff,↓reduceIte,he];try rfl, by simp only [EV,Nat.reduceEqDiff,↓reduceIte,he];try rfl, by simp only [EV,Nat.reduceEqDiff,↓reduceIte,he];try rfl, by simp only [EV,Nat.reduceEqDiff,↓reduceIte,he];try rfl, by simp only [EV,Nat.reduceEqDiff,↓reduceIte,he];try rfl, by simp only [EV,Nat.reduceEqDiff,↓reduceIte,he];try rfl, by simp only [EV,Nat.reduceEqDiff,↓reduceIte,he];try rfl, by simp only [EV,Nat.reduceEqDiff,↓reduceIte,he];try rfl, by simp only [EV,Nat.reduceEqDiff,↓reduceIte,he];try rfl, by simp only [EV,Nat.reduceEqDiff,↓reduceIte,he];try rfl, by simp only [EV,Nat.reduceEqDiff,↓reduceIte,he];try rfl⟩ ?_
 clear he e
 intro e he
 refine Zab (Zae rfl he.1 ?_)
 refine Zab ?_
 refine Zbm (E := 1) (xs := ([1] : List UInt8)) (vs := [.raw (.int .u8 1)]) (cells := bys [1]) (by simp only [List.map_cons, List.map_nil, EV,Nat.reduceEqDiff,↓reduceIte,he];try rfl) Zaw Zbf ZbT rfl (by decide) rfl rfl (by decide) (Ze7 _) fun b73 c73 υ73 p73 s73 x73 => ?_
 refine Zab ?_
 refine Zbm (E := 3) (xs := ([[1]] : List (List UInt8))) (vs := [.lst (some ⟨b73, 0, none⟩) 1 1 c73]) (cells := [.lst (some ⟨b73, 0, none⟩) 1 1 c73]) (by simp only [List.map_cons, List.map_nil, EV,Nat.reduceEqDiff,↓reduceIte,he];try rfl) Zba ZaJ ZcI rfl (by decide) rfl rfl (by decide) (.cons p73 (.none)) fun b74 c74 υ74 p74 s74 x74 => ?_
 refine Zab ?_
 refine Za4 (vs := [.raw (.int .i64 0), .raw (sV Zcb), .lst (some ⟨b74, 0, none⟩) 1 1 c74]) (cells := [.raw (.int .i64 0), .raw (sV Zcb), .lst none 0 0 [], .raw (.int .i64 0), .lst (some ⟨b74, 0, none⟩) 1 1 c74]) (by simp only [List.map_cons, List.map_nil, EV,Nat.reduceEqDiff,↓reduceIte,he];try rfl) ZaC Zbv rfl ?_
 refine Zab (Zae rfl he.1 ?_)
 refine Zab ?_
 refine Zkp (a := Zcb) (c := [120]) rfl rfl (by decide) ?_
 refine Zab ?_
 refine Za4 (vs := [.raw (.int .i64 0), .raw (sV (Zcb ++ [120]))]) (cells := [.raw (.int .i64 0), .raw (sV (Zcb ++ [120])), .lst none 0 0 [], .raw (.int .i64 0), .lst none 0 0 []]) (by simp only [List.map_cons, List.map_nil, EV,Nat.reduceEqDiff,↓reduceIte,he];try rfl) ZaC Zbv rfl ?_
 refine Zab ?_
 refine Zbm (E := 6) (xs := ([⟨0, Zcb, [], 0, [[1]]⟩, ⟨0, (Zcb ++ [120]), [], 0, []⟩] : List ZbG)) (vs := [.agg [.raw (.int .i64 0), .raw (sV Zcb), .lst none 0 0 [], .raw (.int .i64 0), .lst (some ⟨b74, 0, none⟩) 1 1 c74], .agg [.raw (.int .i64 0), .raw (sV (Zcb ++ [120])), .lst none 0 0 [], .raw (.int .i64 0), .lst none 0 0 []]]) (cells := [.raw (.int .i64 0), .raw (sV Zcb), .lst none 0 0 [], .raw (.int .i64 0), .lst (some ⟨b74, 0, none⟩) 1 1 c74, .raw (.int .i64 0), .raw (sV (Zcb ++ [120])), .lst none 0 0 [], .raw (.int .i64 0), .lst none 0 0 []]) (by simp only [List.map_cons, List.map_nil, EV,Nat.reduceEqDiff,↓reduceIte,he];try rfl) ZaW Zbw ZaC rfl (by decide) rfl rfl (by decide) (.cons (ZaM.2 rfl) (.cons (Zbj.2 rfl) (.cons Zbk (.cons (ZaM.2 rfl) (.cons p74 (.cons (ZaM.2 rfl) (.cons (Zbj.2 rfl) (.cons Zbk (.cons (ZaM.2 rfl) (.cons Zbk (.none))))))))))) fun b79 c79 υ79 p79 s79 x79 => ?_
 refine Zdm (fun e => e 1 = .raw (sV Zcb) /\ e 2 = .lst (some ⟨b25, 0, none⟩) 5 5 c25 /\ e 28 = .lst (some ⟨b28, 0, none⟩) 1 1 c28 /\ e 31 = .lst (some ⟨b31, 0, none⟩) 1 1 c31 /\ e 33 = .lst (some ⟨b33, 0, none⟩) 1 1 c33 /\ e 35 = .lst (some ⟨b35, 0, none⟩) 1 1 c35 /\ e 40 = .lst (some ⟨b40, 0, none⟩) 2 2 c40 /\ e 43 = .lst (some ⟨b43, 0, none⟩) 1 1 c43 /\ e 46 = .lst (some ⟨b46, 0, none⟩) 1 1 c46 /\ e 52 = .lst (some ⟨b52, 0, none⟩) 2 2 c52 /\ e 55 = .lst (some ⟨b55, 0, none⟩) 1 1 c55 /\ e 58 = .lst (some ⟨b58, 0, none⟩) 1 1 c58 /\ e 63 = .lst (some ⟨b63, 0, none⟩) 1 1 c63 /\ e 65 = .lst (some ⟨b65, 0, none⟩) 1 1 c65 /\ e 67 = .lst (some ⟨b67, 0, none⟩) 1 1 c67 /\ e 69 = .lst (some ⟨b69, 0, none⟩) 1 1 c69 /\ e 71 = .lst (some ⟨b71, 0, none⟩) 1 1 c71 /\ e 79 = .lst (some ⟨b79, 0, none⟩) 2 2 c79) ⟨by simp only [EV,Nat.reduceEqDiff,↓reduceIte,he];try rfl, by simp only [EV,Nat.reduceEqDiff,↓reduceIte,he];try rfl, by simp only [EV,Nat.reduceEqDiff,↓reduceIte,he];try rfl, by simp only [EV,Nat.reduceEqDiff,↓reduceIte,he];try rfl, by simp only [EV,Nat.reduceEqDiff,↓reduceIte,he];try rfl, by simp only [EV,Nat.reduceEqDiff,↓reduceIte,he];try rfl, by simp only [EV,Nat.reduceEqDiff,↓reduceIte,he];try rfl, by simp only [EV,Nat.reduceEqDiff,↓reduceIte,he];try rfl, by simp only [EV,Nat.reduceEqDiff,↓reduceIte,he];try rfl, by simp only [EV,Nat.reduceEqDiff,↓reduceIte,he];try rfl, by simp only [EV,Nat.reduceEqDiff,↓reduceIte,he];try rfl, by simp only [EV,Nat.reduceEqDiff,↓reduceIte,he];try rfl, by simp only [EV,Nat.reduceEqDiff,↓reduceIte,he];try rfl, by simp only [EV,Nat.reduceEqDiff,↓reduceIte,he];try rfl, by simp only [EV,Nat.reduceEqDiff,↓reduceIte,he];try rfl, by simp only [EV,Nat.reduceEqDiff,↓reduceIte,he];try rfl, by simp only [EV,Nat.reduceEqDiff,↓reduceIte,he];try rfl, by simp only [EV,Nat.reduceEqDiff,↓reduceIte,he];try rfl⟩ ?_
 clear he e
 intro e he
 refine Zab ?_
 refine Zbm (E := 9) (xs := ([[], [⟨2, [], [[97]], 0, []⟩], [⟨2, [], [[98], [110, 111, 110, 101], [97]], 0, []⟩], [⟨3, [97], [], 4, []⟩], [⟨3, [97], [], 2, []⟩], [⟨3, [98], [], 0, []⟩, ⟨0, [98], [], 0, [[11]]⟩], [⟨4, [97], [[98]], 0, []⟩], [⟨4, [97], [[97]], 0, []⟩], [⟨4, [98], [[122]], 0, []⟩, ⟨0, [98], [], 0, [[12, 13]]⟩], [⟨5, [], [[97], [110, 111, 110, 101], [98]], 0, []⟩], [⟨4, [110, 111, 110, 101], [[]], 0, []⟩], [⟨4, [97], [(Zcb ++ [120])], 0, []⟩], [⟨3, [97], [], 6, []⟩], [⟨3, [97], [], -1, []⟩], [⟨3, [110, 111, 110, 101], [], 0, []⟩], [⟨0, [], [], 0, []⟩], [⟨0, Zcb, [], 0, [[1]]⟩, ⟨0, (Zcb ++ [120]), [], 0, []⟩]] : List (List ZbG))) (vs := [.lst none 0 0 [], .lst (some ⟨b28, 0, none⟩) 1 1 c28, .lst (some ⟨b31, 0, none⟩) 1 1 c31, .lst (some ⟨b33, 0, none⟩) 1 1 c33, .lst (some ⟨b35, 0, none⟩) 1 1 c35, .lst (some ⟨b40, 0, none⟩) 2 2 c40, .lst (some ⟨b43, 0, none⟩) 1 1 c43, .lst (some ⟨b46, 0, none⟩) 1 1 c46, .lst (some ⟨b52, 0, none⟩) 2 2 c52, .lst (some ⟨b55, 0, none⟩) 1 1 c55, .lst (some ⟨b58, 0, none⟩) 1 1 c58, .lst (some ⟨b63, 0, none⟩) 1 1 c63, .lst (some ⟨b65, 0, none⟩) 1 1 c65, .lst (some ⟨b67, 0, none⟩) 1 1 c67, .lst (some ⟨b69, 0, none⟩) 1 1 c69, .lst (some ⟨b71, 0, none⟩) 1 1 c71, .lst (some ⟨b79, 0, none⟩) 2 2 c79]) (cells := [.lst none 0 0 [], .lst (some ⟨b28, 0, none⟩) 1 1 c28, .lst (some ⟨b31, 0, none⟩) 1 1 c31, .lst (some ⟨b33, 0, none⟩) 1 1 c33, .lst (some ⟨b35, 0, none⟩) 1 1 c35, .lst (some ⟨b40, 0, none⟩) 2 2 c40, .lst (some ⟨b43, 0, none⟩) 1 1 c43, .lst (some ⟨b46, 0, none⟩) 1 1 c46, .lst (some ⟨b52, 0, none⟩) 2 2 c52, .lst (some ⟨b55, 0, none⟩) 1 1 c55, .lst (some ⟨b58, 0, none⟩) 1 1 c58, .lst (some ⟨b63, 0, none⟩) 1 1 c63, .lst (some ⟨b65, 0, none⟩) 1 1 c65, .lst (some ⟨b67, 0, none⟩) 1 1 c67, .lst (some ⟨b69, 0, none⟩) 1 1 c69, .lst (some ⟨b71, 0, none⟩) 1 1 c71, .lst (some ⟨b79, 0, none⟩) 2 2 c79]) (by simp only [List.map_cons, List.map_nil, EV,Nat.reduceEqDiff,↓reduceIte,he];try rfl) ZgR ZjE ZoM rfl (by decide) (ZoN [.lst none 0 0 [], .lst (some ⟨b28, 0, none⟩) 1 1 c28, .lst (some ⟨b31, 0, none⟩) 1 1 c31, .lst (some ⟨b33, 0, none⟩) 1 1 c33, .lst (some ⟨b35, 0, none⟩) 1 1 c35, .lst (some ⟨b40, 0, none⟩) 2 2 c40, .lst (some ⟨b43, 0, none⟩) 1 1 c43, .lst (some ⟨b46, 0, none⟩) 1 1 c46, .lst (some ⟨b52, 0, none⟩) 2 2 c52, .lst (some ⟨b55, 0, none⟩) 1 1 c55, .lst (some ⟨b58, 0, none⟩) 1 1 c58, .lst (some ⟨b63, 0, none⟩) 1 1 c63, .lst (some ⟨b65, 0, none⟩) 1 1 c65, .lst (some ⟨b67, 0, none⟩) 1 1 c67, .lst (some ⟨b69, 0, none⟩) 1 1 c69, .lst (some ⟨b71, 0, none⟩) 1 1 c71, .lst (some ⟨b79, 0, none⟩) 2 2 c79] rfl rfl) rfl (by decide) (.cons Zbk (.cons p28 (.cons p31 (.cons p33 (.cons p35 (.cons p40 (.cons p43 (.cons p46 (.cons p52 (.cons p55 (.cons p58 (.cons p63 (.cons p65 (.cons p67 (.cons p69 (.cons p71 (.cons p79 (.none)))))))))))))))))) fun b80 c80 υ80 p80 s80 x80 => ?_
 refine Zab (Zae rfl (by simp only [EV,Nat.reduceEqDiff,↓reduceIte,he];try rfl) ?_)
 refine Zaf ?_
 apply ZaK 2 3
 iterate 2 ·simp only [EV,Nat.reduceEqDiff,↓reduceIte,he];try rfl
 clear he e
 intro e he
 have s25 : SVs CT 0 ZdC (ZoZ.flatMap (CT.enc 6)) c25 := s25
 have s80 : SVs CT 0 ZdC (Zh4.flatMap (CT.enc 9)) c80 := s80
 have hcl25 : c25.length = 25 := s25.len
 have hBe : SV CT 0 ZdC (.sl 6 ZoZ none) (.lst (some ⟨b25, 0, none⟩) 5 5 c25) := Zd2.2 ⟨_, 5, c25, [], by rw [List.append_nil]; rfl, Nat.le_refl _, by unfold maxLen; omega, by decide, fun q => (by cases q), s25⟩
 obtain ⟨hcl80, hct⟩ := ZgU s80
 have hLT : ∀ υ : St, Ls υ 29 (.lst (some ⟨b80, 0, none⟩) 17 17 c80) 17 c80 := fun υ => ⟨hcl80, fun a ha => by
  obtain ⟨j, hj, rfl⟩ := List.getElem_of_mem ha
  obtain ⟨v, h1, h2⟩ := hct j (by omega)
  rw [List.getElem?_eq_getElem hj] at h1
  injection h1 with h1
  rw [h1]
  obtain ⟨A, c, cs, rest, rfl, _⟩ := Zd2.1 h2
  rfl, .inl ⟨_, 17, [], by rw [List.append_nil], fun q => by cases q⟩⟩
 repeat refine Zac ?_
 first|refine Zaa ?_|refine Zad ?_
 refine Zab (Zae rfl (by simp only [EV,Nat.reduceEqDiff,↓reduceIte,he];try rfl) ?_)
 refine Zaf ?_
 apply ZaL 2 3 4
 iterate 3 ·simp only [EV,Nat.reduceEqDiff,↓reduceIte,he];try rfl
 clear he e
 intro e he
 refine ZaD ?_
 refine ZaV (fun μ env υ => ∃ i : Nat, μ = 17 - i /\ i <= 17 /\ (env 2 = .lst (some ⟨b25, 0, none⟩) 5 5 c25 /\ env 3 = .lst (some ⟨b80, 0, none⟩) 17 17 c80 /\ env 4 = vI i)) ⟨_, 0, rfl, Nat.zero_le _, he⟩ ?_
 clear he e
 rintro _ e υ ⟨i, rfl, hi, he⟩
 repeat refine Zac ?_
 first|refine Zaa ?_|refine Zad ?_
 refine Zab (Zae rfl he.2.2 ?_)
 refine Zab (Zae rfl he.2.1 ?_)
 refine Zab ?_
 refine ZbD rfl (hLT υ) rfl ZgR ?_
 refine Zab ?_
 refine Zbs i 17 rfl rfl ?_
 refine Zaf ?_
 apply ZaP 2 3 4 84
 iterate 4 ·simp only [EV,Nat.reduceEqDiff,↓reduceIte,he];try rfl
 clear he e
 intro e he
 refine Zav (t := decide (i < 17)) he.2.2.2 (fun ht => ?_) (fun ht => ?_)
 ·have hi17 : i < 17 := of_decide_eq_true ht
  refine Zaz ?_
  refine ZaD ?_
  repeat refine Zac ?_
  first|refine Zaa ?_|refine Zad ?_
  refine Zab (Zae rfl (by simp only [EV,Nat.reduceEqDiff,↓reduceIte,he];try rfl) ?_)
  refine Zaf ?_
  apply ZaP 2 3 4 5
  iterate 4 ·simp only [EV,Nat.reduceEqDiff,↓reduceIte,he];try rfl
  clear he e
  intro e he
  refine ZmS (fun env υ => env 2 = .lst (some ⟨b25, 0, none⟩) 5 5 c25 /\ env 3 = .lst (some ⟨b80, 0, none⟩) 17 17 c80 /\ env 4 = vI i) ?_ ?_
  ·refine ZaT ?_
   refine ZaV (fun μ env υ => ∃ kp : Nat, μ = 15 - kp /\ kp <= 15 /\ (env 2 = .lst (some ⟨b25, 0, none⟩) 5 5 c25 /\ env 3 = .lst (some ⟨b80, 0, none⟩) 17 17 c80 /\ env 4 = vI i /\ env 5 = vI ((kp : Int) - 1))) ⟨_, 0, rfl, Nat.zero_le _, he⟩ ?_
   clear he e
   rintro _ e υ ⟨kp, rfl, hkp, he⟩
   generalize hkeep : (kp : Int) - 1 = keep at he
   repeat refine Zac ?_
   first|refine Zaa ?_|refine Zad ?_
   refine Zab (Zae rfl he.2.2.2 ?_)
   refine Zab ?_
   refine ZeH (k := .i64) (a := keep) (b := 14) rfl rfl ?_
   refine Zaf ?_
   apply Zb6 2 3 4 5 88
   iterate 5 ·simp only [EV,Nat.reduceEqDiff,↓reduceIte,he];try rfl
   clear he e
   intro e he
   refine Zav (t := decide (keep < 14)) he.2.2.2.2 (fun ht => ?_) (fun ht => ?_)
   ·have hk14 : keep < 14 := of_decide_eq_true ht
    obtain ⟨v1, hv1, hV1⟩ := hct i hi17
    obtain ⟨A1, C1, cs1, rest1, rfl, n1, n2, n3, n4, n5⟩ := Zd2.1 hV1
    have ht1 := ZmD _ (List.getElem_mem (show i < Zh4.length from hi17))
    have hl1 : (Zh4[i]'hi17).length <= 2 := ht1.2
    refine Zaz ?_
    refine ZaD ?_
    refine Zb5 ?_
    refine ⟨[1, 3, 4, 5, 8, 9, 13, 14, 15, 6, 0, 2, 7, 10, 11, 12, 16, 17, 18], [[], [], [0, 1], [], [], [3, 4], [3, 4, 5], [0, 1, 2, 3, 4, 5, 6], [], [8], [], [10], [10, 11], [], [13], [13, 14], [8, 9, 10, 11, 12, 13, 14, 15], [0, 1, 2, 3, 4, 5, 6, 7, 8, 9, 10, 11, 12, 13, 14, 15, 16], [0, 1, 2, 3, 4, 5, 6, 7, 8, 9, 10, 11, 12, 13, 14, 15, 16, 17]], fun _ => True, [6], [2], [10, 11, 16], by kernel_rfl, ?_⟩
    apply Zai
    case hi => simp only [HIX]; try rfl
    case hw => rfl
    case how => rfl
    refine Zae rfl he.1 ?_
    refine Zaq ?_
    apply Zai
    case hi => simp only [HIX]; try rfl
    case hw => rfl
    case how => rfl
    refine Zae rfl he.2.1 ?_
    refine Zaq ?_
    apply Zai
    case hi => simp only [HIX]; try rfl
    case hw => rfl
    case how => rfl
    refine Zae rfl he.2.2.1 ?_
    refine Zaq ?_
    apply Zai
    case hi => simp only [HIX]; try rfl
    case hw => rfl
    case how => rfl
    refine ZdT (hLT υ) hi17 hv1 (by simp only [EV,Nat.reduceEqDiff,↓reduceIte,he];try rfl) (by simp only [EV,Nat.reduceEqDiff,↓reduceIte,he];try rfl) ZgR ZjE ZmC fun q1 hq1 => ?_
    refine Zaq ?_
    apply Zai
    case hi => simp only [HIX]; try rfl
    case hw => rfl
    case how => rfl
    refine Zae rfl he.2.2.2.1 ?_
    refine Zaq ?_
    apply Zai
    case hi => simp only [HIX]; try rfl
    case hw => rfl
    case how => rfl
    refine Za4 (vs := [.raw (.int .i64 6), .raw (.int .i64 keep)]) (cells := [.raw (.int .i64 6), .raw (sV []), .lst none 0 0 [], .raw (.int .i64 keep), .lst none 0 0 []]) (by simp only [List.map_cons, List.map_nil, EV,Nat.reduceEqDiff,↓reduceIte,he];try rfl) ZaC Zbv rfl ?_
    refine Zaq ?_
    apply Zai
    case hi => simp only [HIX]; try rfl
    case hw => rfl
    case how => rfl
    refine Zae rfl he.2.2.2.1 ?_
    refine Zaq ?_
    apply Zai
    case hi => simp only [HIX]; try rfl
    case hw => rfl
    case how => rfl
    refine ZcZ keep 1 (by simp only [EV,Nat.reduceEqDiff,↓reduceIte,he];try rfl) (by simp only [EV,Nat.reduceEqDiff,↓reduceIte,he];try rfl) (by omega) (by omega) ?_
    refine Zaq ?_
    apply Zai
    case hi => simp only [HIX]; try rfl
    case hw => rfl
    case how => rfl
    refine Za4 (vs := [.raw (.int .i64 6), .raw (.int .i64 (keep - 1))]) (cells := [.raw (.int .i64 6), .raw (sV []), .lst none 0 0 [], .raw (.int .i64 (keep - 1)), .lst none 0 0 []]) (by simp only [List.map_cons, List.map_nil, EV,Nat.reduceEqDiff,↓reduceIte,he];try rfl) ZaC Zbv rfl ?_
    refine Zaq ?_
    apply Zai
    case hi => simp only [HIX]; try rfl
    case hw => rfl
    case how => rfl
    refine Zc3 (by simp only [EV,Nat.reduceEqDiff,↓reduceIte,he];try rfl) hq1 ?_
    refine Zaq ?_
    apply Zai
    case hi => simp only [HIX]; try rfl
    case hw => rfl
    case how => rfl
    refine Zbd (vs := []) (cells := []) rfl ZaW Zbw ZaC rfl (by decide) rfl fun b0 hu0 hb0 => ?_
    refine ⟨(fun hf => by cases hf), ?_⟩
    apply Zai
    case hi => simp only [HIX]; try rfl
    case hw => rfl
    case how => rfl
    refine Zha (m := 5) (news := c25) (by simp only [EV,Nat.reduceEqDiff,↓reduceIte,he];try rfl) (by simp only [EV,Nat.reduceEqDiff,↓reduceIte,he];try rfl) ZaW Zbw ZaC ZgS rfl (by omega) (by
     have := ZbY (σ := υ.put b0 (.tail 28 (0 * 5) (0 * 5))) (sz := 5) (A := some ⟨b25, 0, none⟩) (m := 5) (c := 5) (cells := c25) (rest := []) (by rw [hcl25]) (ZgV s25) (fun q => by cases q)
     rw [List.append_nil] at this
     exact this) (by unfold maxLen; omega) (by omega) fun v2 υ2 hv2 hX2 hn2 => ?_
    refine ⟨fun _ => hX2, ?_⟩
    have hlen1 := Zkq n5
    apply Zai
    case hi => simp only [HIX]; try rfl
    case hw => rfl
    case how => rfl
    refine Za9 (m := (Zh4[i]'hi17).length) (news := cs1) (by simp only [EV,Nat.reduceEqDiff,↓reduceIte,he];try rfl) (by simp only [EV,Nat.reduceEqDiff,↓reduceIte,he];try rfl) ZaW Zbw ZaC ZgS rfl (by omega) hv2 (ZbY hlen1 (ZgV n5) fun q => (n4 q).1) (by unfold maxLen; omega) (by omega) fun v3 υ3 hv3 hB3 hn3 => ?_
    refine ⟨(fun hf => by cases hf), ?_⟩
    apply Zqw (vs := [.raw (.int .u8 20)]) (cells := bys [20])
    case hi => simp only [HIX]; try rfl
    case how => rfl
    case hv => simp only [List.map_cons, List.map_nil, EV,Nat.reduceEqDiff,↓reduceIte,he];try rfl
    case ht => exact Zaw
    case hs => exact Zbf
    case hz => exact ZbT
    case hzs => rfl
    case hn => decide
    case hf => rfl
    intro b10 hu10 hb10
    have hX10 := Ext.put (σ := υ3) (.own 5 (bys [20])) hb10
    have h10 : Hd (υ3.put b10 (.own 5 (bys [20]))) 5 1 (hdr b10 1 1) 1 (bys [20]) := Zlp (by omega) (by omega) rfl (Zlo _)
    apply Zqw (vs := [hdr b10 1 1]) (cells := [hdr b10 1 1])
    case hi => simp only [HIX]; try rfl
    case how => rfl
    case hv => simp only [List.map_cons, List.map_nil, EV,Nat.reduceEqDiff,↓reduceIte,he];try rfl
    case ht => exact Zba
    case hs => exact ZaJ
    case hz => exact ZcI
    case hzs => rfl
    case hn => decide
    case hf => rfl
    intro b11 hu11 hb11
    have hX11 := Ext.put (σ := υ3.put b10 (.own 5 (bys [20]))) (.own 32 [hdr b10 1 1]) hb11
    have h11 : Hd ((υ3.put b10 (.own 5 (bys [20]))).put b11 (.own 32 [hdr b10 1 1])) 32 1 (hdr b11 1 1) 1 [hdr b10 1 1] := Zlp (by omega) (by omega) rfl (fun a ha => by rw [List.mem_singleton.1 ha]; rfl)
    have h10 := h10.ext hX11
    have hv3 := (hv3.ext hX10).ext hX11
    generalize (υ3.put b10 (.own 5 (bys [20]))).put b11 (.own 32 [hdr b10 1 1]) = υ4 at h10 h11 hv3 ⊢
    clear hX10 hX11
    apply Zai
    case hi => simp only [HIX]; try rfl
    case hw => rfl
    case how => rfl
    refine Za4 (vs := [.raw (.int .i64 0), .raw (sV [97]), hdr b11 1 1]) (cells := [.raw (.int .i64 0), .raw (sV [97]), .lst none 0 0 [], .raw (.int .i64 0), hdr b11 1 1]) (by simp only [List.map_cons, List.map_nil, EV,Nat.reduceEqDiff,↓reduceIte,he];try rfl) ZaC Zbv rfl ?_
    refine Zaq ?_
    apply Zqw (vs := [.agg [.raw (.int .i64 6), .raw (sV []), .lst none 0 0 [], .raw (.int .i64 keep), .lst none 0 0 []], .agg [.raw (.int .i64 0), .raw (sV [97]), .lst none 0 0 [], .raw (.int .i64 0), hdr b11 1 1], .agg [.raw (.int .i64 6), .raw (sV []), .lst none 0 0 [], .raw (.int .i64 (keep - 1)), .lst none 0 0 []]]) (cells := [.raw (.int .i64 6), .raw (sV []), .lst none 0 0 [], .raw (.int .i64 keep), .lst none 0 0 []] ++ [.raw (.int .i64 0), .raw (sV [97]), .lst none 0 0 [], .raw (.int .i64 0), hdr b11 1 1] ++ [.raw (.int .i64 6), .raw (sV []), .lst none 0 0 [], .raw (.int .i64 (keep - 1)), .lst none 0 0 []])
    case hi => simp only [HIX]; try rfl
    case how => rfl
    case hv => simp only [List.map_cons, List.map_nil, EV,Nat.reduceEqDiff,↓reduceIte,he];try rfl
    case ht => exact ZaW
    case hs => exact Zbw
    case hz => exact ZaC
    case hzs => rfl
    case hn => decide
    case hf => rfl
    intro b16 hu16 hb16
    have hX16 := Ext.put (σ := υ4) (.own 28 ([.raw (.int .i64 6), .raw (sV []), .lst none 0 0 [], .raw (.int .i64 keep), .lst none 0 0 []] ++ [.raw (.int .i64 0), .raw (sV [97]), .lst none 0 0 [], .raw (.int .i64 0), hdr b11 1 1] ++ [.raw (.int .i64 6), .raw (sV []), .lst none 0 0 [], .raw (.int .i64 (keep - 1)), .lst none 0 0 []])) hb16
    have h16 : Hd (υ4.put b16 (.own 28 ([.raw (.int .i64 6), .raw (sV []), .lst none 0 0 [], .raw (.int .i64 keep), .lst none 0 0 []] ++ [.raw (.int .i64 0), .raw (sV [97]), .lst none 0 0 [], .raw (.int .i64 0), hdr b11 1 1] ++ [.raw (.int .i64 6), .raw (sV []), .lst none 0 0 [], .raw (.int .i64 (keep - 1)), .lst none 0 0 []]))) 28 5 (hdr b16 3 3) 3 ([.raw (.int .i64 6), .raw (sV []), .lst none 0 0 [], .raw (.int .i64 keep), .lst none 0 0 []] ++ [.raw (.int .i64 0), .raw (sV [97]), .lst none 0 0 [], .raw (.int .i64 0), hdr b11 1 1] ++ [.raw (.int .i64 6), .raw (sV []), .lst none 0 0 [], .raw (.int .i64 (keep - 1)), .lst none 0 0 []]) := Zlp (by omega) (by omega) rfl (fun a ha => by
     simp only [List.cons_append, List.nil_append, List.mem_cons, List.not_mem_nil, or_false] at ha
     rcases ha with rfl | rfl | rfl | rfl | rfl | rfl | rfl | rfl | rfl | rfl | rfl | rfl | rfl | rfl | rfl <;> rfl)
    have h10 := h10.ext hX16
    have h11 := h11.ext hX16
    have hv3 := hv3.ext hX16
    apply Zai
    case hi => simp only [HIX]; try rfl
    case hw => rfl
    case how => rfl
    refine Za9 (m := 3) (news := [.raw (.int .i64 6), .raw (sV []), .lst none 0 0 [], .raw (.int .i64 keep), .lst none 0 0 []] ++ [.raw (.int .i64 0), .raw (sV [97]), .lst none 0 0 [], .raw (.int .i64 0), hdr b11 1 1] ++ [.raw (.int .i64 6), .raw (sV []), .lst none 0 0 [], .raw (.int .i64 (keep - 1)), .lst none 0 0 []]) (by simp only [EV,Nat.reduceEqDiff,↓reduceIte,he];try rfl) (by simp only [EV,Nat.reduceEqDiff,↓reduceIte,he];try rfl) ZaW Zbw ZaC ZgS rfl (by omega) hv3 (h16.src (by omega)) (by unfold maxLen; omega) (by omega) fun v5 υ5 hv5 hB5 hn5 => ?_
    refine ⟨(fun hf => by cases hf), ?_⟩
    have h10 := h10.but hB5 fun c hc hq => h10.ne hv3 (by decide) hc hq
    have h11 := h11.but hB5 fun c hc hq => h11.ne hv3 (by decide) hc hq
    clear hX16 h16 hB5 hn5 hv3
    apply Zai
    case hi => simp only [HIX]; try rfl
    case hw => rfl
    case how => rfl
    refine Zae rfl (by simp only [EV,Nat.reduceEqDiff,↓reduceIte,he];try rfl) ?_
    refine Zaq ?_
    refine Zcg ?_
    apply Zb6 2 3 4 5 6
    iterate 5 ·simp only [EV,Nat.reduceEqDiff,↓reduceIte,he];try rfl
    clear he e
    intro e he
    have hj17 : (i + 3) % 17 < 17 := Nat.mod_lt _ (by decide)
    obtain ⟨v8, hv8, hV8⟩ := hct ((i + 3) % 17) hj17
    obtain ⟨A2, C2, cs2, rest2, rfl, m1, m2, m3, m4, m5⟩ := Zd2.1 hV8
    have ht2 := ZmD _ (List.getElem_mem (show (i + 3) % 17 < Zh4.length from hj17))
    have hl2 : (Zh4[(i + 3) % 17]'hj17).length <= 2 := ht2.2
    have hlen2 := Zkq m5
    repeat refine Zac ?_
    first|refine Zaa ?_|refine Zad ?_
    refine Zab (Zae rfl he.2.2.2.1 ?_)
    refine Zab (Zae rfl he.2.2.1 ?_)
    refine Zab ?_
    refine Zn8 (k := .i64) (a := (i : Int)) (b := 3) (r := ((i % 3 : Nat) : Int)) rfl rfl (by decide) rfl ?_
    refine Zab ?_
    refine Zn7 (k := .i64) (a := keep) (b := ((i % 3 : Nat) : Int)) rfl rfl rfl ?_
    refine Zab (Zae rfl he.2.2.2.2 ?_)
    refine Zab (Zae rfl he.2.2.2.1 ?_)
    refine Zab ?_
    refine Zig (k := .i64) (a := keep) (b := 5) (r := keep + 5) rfl rfl (IntWalk.i64_in _ (by omega)) ?_
    refine Zab ?_
    refine Zbd (vs := []) (cells := []) rfl ZaW Zbw ZaC rfl (by decide) rfl fun b0 hu0 hb0 => ?_
    have hX0 := Ext.put (σ := υ5) (.tail 28 (0 * 5) (0 * 5)) hb0
    have hv5 := hv5.ext hX0
    have hu5 : ∀ c, hbk v5 = some c -> (υ5.put b0 (.tail 28 (0 * 5) (0 * 5))).used c := fun c hc => hv5.used hc
    have h10 := h10.ext hX0
    have h11 := h11.ext hX0
    refine Zab (Zae rfl he.2.1 ?_)
    refine Zab (Zae rfl he.2.2.1 ?_)
    refine Zab ?_
    refine ZaU i 3 rfl rfl (by omega) ?_
    refine Zab (Zae rfl he.2.1 ?_)
    refine Zab ?_
    refine ZbD rfl (hLT _) rfl ZgR ?_
    refine Zab ?_
    refine Zn8 (k := .i64) (a := ((i + 3 : Nat) : Int)) (b := ((17 : Nat) : Int)) (r := (((i + 3) % 17 : Nat) : Int)) rfl rfl (by decide) rfl ?_
    refine Zjn (hLT _) hj17 hv8 rfl rfl ZgR ZjE ZmC fun q => ?_
    refine Zab ?_
    refine Zha (m := (Zh4[(i + 3) % 17]'hj17).length) (news := cs2) rfl rfl ZaW Zbw ZaC ZgS rfl (by omega) (ZbY hlen2 (ZgV m5) fun q => (m4 q).1) (by unfold maxLen; omega) (by omega) fun v6 υ6 hv6 hX6 hn6 => ?_
    refine Zab ?_
    refine Za4 (vs := [.raw (.int .i64 6), .raw (.int .i64 5)]) (cells := [.raw (.int .i64 6), .raw (sV []), .lst none 0 0 [], .raw (.int .i64 5), .lst none 0 0 []]) (by simp only [List.map_cons, List.map_nil, EV,Nat.reduceEqDiff,↓reduceIte,he];try rfl) ZaC Zbv rfl ?_
    refine Zab ?_
    refine Zbd (vs := [.agg [.raw (.int .i64 6), .raw (sV []), .lst none 0 0 [], .raw (.int .i64 5), .lst none 0 0 []]]) (cells := [.raw (.int .i64 6), .raw (sV []), .lst none 0 0 [], .raw (.int .i64 5), .lst none 0 0 []]) (by simp only [List.map_cons, List.map_nil, EV,Nat.reduceEqDiff,↓reduceIte,he];try rfl) ZaW Zbw ZaC rfl (by decide) rfl fun b7 hu7 hb7 => ?_
    have hX7 := Ext.put (σ := υ6) (.tail 28 (1 * 5) (1 * 5)) hb7
    have hv5 := (hv5.ext hX6).ext hX7
    have h10 := (h10.ext hX6).ext hX7
    have h11 := (h11.ext hX6).ext hX7
    have hb56 : ∀ c, hbk v5 = some c -> hbk v6 ≠ some c := fun c hc hq => (hn6 c hq).2 (hu5 c hc)
    refine Zab ?_
    refine Za9 (m := 1) (news := [.raw (.int .i64 6), .raw (sV []), .lst none 0 0 [], .raw (.int .i64 5), .lst none 0 0 []]) (by simp only [EV,Nat.reduceEqDiff,↓reduceIte,he];try rfl) (by simp only [EV,Nat.reduceEqDiff,↓reduceIte,he];try rfl) ZaW Zbw ZaC ZgS rfl (by omega) (hv6.ext hX7) (ZbY (rest := []) rfl (fun a ha => by
     simp only [List.mem_cons, List.not_mem_nil, or_false] at ha
     rcases ha with rfl | rfl | rfl | rfl | rfl <;> rfl) fun q => by cases q) (by unfold maxLen; omega) (by omega) fun v7 υ7 hv7 hB7 hn7 => ?_
    have hv5 := hv5.but hB7 fun c hc hq => hb56 c hc hq
    have h10 := h10.but hB7 fun c hc hq => h10.ne (hv6.ext hX7) (by decide) hc hq
    have h11 := h11.but hB7 fun c hc hq => h11.ne (hv6.ext hX7) (by decide) hc hq
    obtain ⟨A0, C0, e0, e1, e2, e3⟩ := h10.lends (G := fun _ => True) (fun _ _ => trivial) (ZcP.refl _)
    obtain ⟨A3, C3, f0, f1, f2, f3⟩ := h11.lends (G := fun _ => True) (m := [.lst A0 1 C0 (bys [20])]) (fun _ _ => trivial) ⟨e0, trivial⟩
    obtain ⟨A5, C5, g0, g1, g2, g3⟩ := hv5.lends (G := fun _ => True) (m := c25 ++ cs1 ++ ([.raw (.int .i64 6), .raw (sV []), .lst none 0 0 [], .raw (.int .i64 keep), .lst none 0 0 []] ++ [.raw (.int .i64 0), .raw (sV [97]), .lst none 0 0 [], .raw (.int .i64 0), .lst A3 1 C3 [.lst A0 1 C0 (bys [20])]] ++ [.raw (.int .i64 6), .raw (sV []), .lst none 0 0 [], .raw (.int .i64 (keep - 1)), .lst none 0 0 []])) (fun _ _ => trivial) ((ZcP.refl _).append (((ZcP.refl _).append (ZqM f0)).append (ZcP.refl _)))
    obtain ⟨A7, C7, h0, h1, h2, h3⟩ := hv7.lends (G := fun _ => True) (fun _ _ => trivial) (ZcP.refl _)
    have hsP : SV CT 0 ZdC (.sl 3 [[20]] none) (.lst A3 1 C3 [.lst A0 1 C0 (bys [20])]) := Zd2.2 ⟨A3, C3, [.lst A0 1 C0 (bys [20])], [], rfl, f1, f2, by decide, f3, .cons (Zd2.2 ⟨A0, C0, bys [20], [], rfl, e1, e2, by decide, e3, Ze7 _⟩) .none⟩
    have hsL1 : SVs CT 0 ZdC ((ZoZ ++ Zh4[i]'hi17 ++ [ZbG.mk 6 [] [] keep [], ZbG.mk 0 [97] [] 0 [[20]], ZbG.mk 6 [] [] (keep - 1) []]).flatMap (CT.enc 6)) (c25 ++ cs1 ++ ([.raw (.int .i64 6), .raw (sV []), .lst none 0 0 [], .raw (.int .i64 keep), .lst none 0 0 []] ++ [.raw (.int .i64 0), .raw (sV [97]), .lst none 0 0 [], .raw (.int .i64 0), .lst A3 1 C3 [.lst A0 1 C0 (bys [20])]] ++ [.raw (.int .i64 6), .raw (sV []), .lst none 0 0 [], .raw (.int .i64 (keep - 1)), .lst none 0 0 []])) := by
     rw [List.flatMap_append, List.flatMap_append]
     exact (s25.app n5).app (.cons (ZaM.2 rfl) (.cons (Zbj.2 rfl) (.cons Zbk (.cons (ZaM.2 rfl) (.cons Zbk (.cons (ZaM.2 rfl) (.cons (Zbj.2 rfl) (.cons Zbk (.cons (ZaM.2 rfl) (.cons hsP (.cons (ZaM.2 rfl) (.cons (Zbj.2 rfl) (.cons Zbk (.cons (ZaM.2 rfl) (.cons Zbk .none)))))))))))))))
    have hsL2 : SVs CT 0 ZdC ((Zh4[(i + 3) % 17]'hj17 ++ [ZbG.mk 6 [] [] 5 []]).flatMap (CT.enc 6)) (cs2 ++ [.raw (.int .i64 6), .raw (sV []), .lst none 0 0 [], .raw (.int .i64 5), .lst none 0 0 []]) := by
     rw [List.flatMap_append]
     exact m5.app (.cons (ZaM.2 rfl) (.cons (Zbj.2 rfl) (.cons Zbk (.cons (ZaM.2 rfl) (.cons Zbk .none)))))
    have hn1 : (ZoZ ++ Zh4[i]'hi17 ++ [ZbG.mk 6 [] [] keep [], ZbG.mk 0 [97] [] 0 [[20]], ZbG.mk 6 [] [] (keep - 1) []]).length = 5 + (Zh4[i]'hi17).length + 3 := by
     rw [List.length_append, List.length_append]
     rfl
    have hn2 : (Zh4[(i + 3) % 17]'hj17 ++ [ZbG.mk 6 [] [] 5 []]).length = (Zh4[(i + 3) % 17]'hj17).length + 1 := by rw [List.length_append]; rfl
    refine Zab ?_
    refine Zao (vs := [.raw (.int .i64 (IntKind.i64.wrap (keep * ((i % 3 : Nat) : Int)))), v5, .raw (.int .i64 (keep + 5)), v7]) (by simp only [List.map_cons, List.map_nil, EV,Nat.reduceEqDiff,↓reduceIte,he];try rfl) ?_
    refine ZkV (rv := vT true) (args := [.raw (.int .i64 (IntKind.i64.wrap (keep * ((i % 3 : Nat) : Int)))), v5, .raw (.int .i64 (keep + 5)), v7]) (args' := [.raw (.int .i64 (IntKind.i64.wrap (keep * ((i % 3 : Nat) : Int)))), .lst A5 (5 + (Zh4[i]'hi17).length + 3) C5 (c25 ++ cs1 ++ ([.raw (.int .i64 6), .raw (sV []), .lst none 0 0 [], .raw (.int .i64 keep), .lst none 0 0 []] ++ [.raw (.int .i64 0), .raw (sV [97]), .lst none 0 0 [], .raw (.int .i64 0), .lst A3 1 C3 [.lst A0 1 C0 (bys [20])]] ++ [.raw (.int .i64 6), .raw (sV []), .lst none 0 0 [], .raw (.int .i64 (keep - 1)), .lst none 0 0 []])), .raw (.int .i64 (keep + 5)), .lst A7 ((Zh4[(i + 3) % 17]'hj17).length + 1) C7 (cs2 ++ [.raw (.int .i64 6), .raw (sV []), .lst none 0 0 [], .raw (.int .i64 5), .lst none 0 0 []])]) ⟨.refl _, g0, .refl _, h0, trivial⟩ ?_ (fun w B => ZaY _) _ fun υ8 hX8 => ?_
    ·have key := ZnC (l := ZoZ ++ Zh4[i]'hi17 ++ [ZbG.mk 6 [] [] keep [], ZbG.mk 0 [97] [] 0 [[20]], ZbG.mk 6 [] [] (keep - 1) []]) (m := Zh4[(i + 3) % 17]'hj17 ++ [ZbG.mk 6 [] [] 5 []]) (size := IntKind.i64.wrap (keep * ((i % 3 : Nat) : Int))) (fork := keep + 5) (A := A5) (A2 := A7) (c := C5) (c2 := C7) (rest := []) (rest2 := []) (σ := ZfC (fun _ => True) υ7) (fun r τ => r = vT true) (fun x hx => ?_) (by rw [hn1]; omega) (fun x hx => ?_) (by rw [hn2]; omega) (ZjF (by omega) (by omega)) (fun q => by rw [hn1]; exact (g3 q).1) hsL1 (fun q => by rw [hn2]; exact (h3 q).1) hsL2 fun τ => rfl
     ·rw [List.append_nil, List.append_nil, hn1, hn2] at key
      exact key
     ·rcases List.mem_append.1 hx with hx | hx
      ·rcases List.mem_append.1 hx with hx | hx
       ·exact ZgT (ZoO x hx)
       ·exact ZgT (ht1.1 x hx)
      ·simp only [List.mem_cons, List.not_mem_nil, or_false] at hx
       rcases hx with rfl | rfl | rfl
       ·exact ZgT (by simp [okB]; omega)
       ·exact ZgT (by decide)
       ·exact ZgT (by simp [okB]; omega)
     ·rcases List.mem_append.1 hx with hx | hx
      ·exact ZgT (ht2.1 x hx)
      ·rw [List.mem_singleton.1 hx]
       exact ZgT (by decide)
    refine Zab ?_
    with_reducible apply ZbB
    case hx => simp only [EV,Nat.reduceEqDiff,↓reduceIte,he];try rfl
    refine Zaf ?_
    apply Zb6 2 3 4 5 130
    iterate 5 ·simp only [EV,Nat.reduceEqDiff,↓reduceIte,he];try rfl
    clear he e
    intro e he
    refine ZaS (t := false) he.2.2.2.2 (fun hf => by cases hf) (fun _ => ?_)
    refine Zbq ?_
    show Zay _ _ _ _ _ _
    refine Zad ?_
    refine Zab (Zae rfl he.2.2.2.1 ?_)
    refine Zab ?_
    refine Zig (k := .i64) (a := keep) (b := 1) (r := keep + 1) rfl rfl (IntWalk.i64_in _ (by omega)) ?_
    refine Zab (Zae rfl (by simp only [EV,Nat.reduceEqDiff,↓reduceIte,he];try rfl) ?_)
    refine Zaf ?_
    show ∃ n', n' < _ /\ _
    have hk1 : keep + 1 = ((kp + 1 : Nat) : Int) - 1 := by omega
    exact ⟨_, (by omega : 15 - (kp + 1) < 15 - kp), kp + 1, rfl, by omega, by simp only [EV,Nat.reduceEqDiff,↓reduceIte,he];try rfl, by simp only [EV,Nat.reduceEqDiff,↓reduceIte,he];try rfl, by simp only [EV,Nat.reduceEqDiff,↓reduceIte,he];try rfl, by rw [<- hk1]; simp only [EV,Nat.reduceEqDiff,↓reduceIte,he];try rfl⟩
   ·refine Zbe ?_
    exact ⟨rfl, by simp only [EV,Nat.reduceEqDiff,↓reduceIte,he];try rfl, by simp only [EV,Nat.reduceEqDiff,↓reduceIte,he];try rfl, by simp only [EV,Nat.reduceEqDiff,↓reduceIte,he];try rfl⟩
  clear he e
  rintro e υ he
  show Zay _ _ _ _ _ _
  repeat refine Zac ?_
  first|refine Zaa ?_|refine Zad ?_
  refine Zab (Zae rfl he.2.2 ?_)
  refine Zab ?_
  refine ZaU i 1 rfl rfl (by omega) ?_
  refine Zab (Zae rfl (by simp only [EV,Nat.reduceEqDiff,↓reduceIte,he];try rfl) ?_)
  refine Zaf ?_
  show ∃ n', n' < _ /\ _
  exact ⟨_, (by omega : 17 - (i + 1) < 17 - i), i + 1, rfl, hi17, by simp only [EV,Nat.reduceEqDiff,↓reduceIte,he];try rfl, by simp only [EV,Nat.reduceEqDiff,↓reduceIte,he];try rfl, by simp only [EV,Nat.reduceEqDiff,↓reduceIte,he];try rfl⟩
 ·refine Zbe ?_
  show Zay _ _ _ _ _ _
  repeat refine Zac ?_
  first|refine Zaa ?_|refine Zad ?_
  refine Zab (Zae rfl (by simp only [EV,Nat.reduceEqDiff,↓reduceIte,he];try rfl) ?_)
  refine Zaf ?_
  apply Zbz 7
  ·simp only [EV,Nat.reduceEqDiff,↓reduceIte,he];try rfl
  clear he e
  intro e he
  repeat refine Zac ?_
  first|refine Zaa ?_|refine Zad ?_
  refine Zab (Zae rfl he ?_)
  refine Zab ?_
  refine Zao (vs := [.raw (.pointer none), .raw (.int .i64 1)]) (by simp only [List.map_cons, List.map_nil, EV,Nat.reduceEqDiff,↓reduceIte,he];try rfl) ?_
  refine Zi3 (.inl rfl) ?_
  refine Zaf ?_
  apply Zbz 7
  ·simp only [EV,Nat.reduceEqDiff,↓reduceIte,he];try rfl
  clear he e
  intro e he
  repeat refine Zac ?_
  first|refine Zaa ?_|refine Zad ?_
  refine Zab ?_
  refine Zd0 Zlv rfl fun b8 υ8 hn8 hu8 hb8 hub8 hX8 => ?_
  refine Zab (Zae rfl (by simp only [EV,Nat.reduceEqDiff,↓reduceIte,he];try rfl) ?_)
  refine Zaf ?_
  apply ZaK 7 8
  iterate 2 ·simp only [EV,Nat.reduceEqDiff,↓reduceIte,he];try rfl
  clear he e
  intro e he
  have hO : NoD υ8 (ptr b8 0) := .inr ⟨b8, _, _, rfl, hb8⟩
  repeat refine Zac ?_
  first|refine Zaa ?_|refine Zad ?_
  refine Zab (Zae rfl he.2 ?_)
  refine Zab ?_
  refine Zao (vs := [ptr b8 0, .raw (.int .i64 1)]) (by simp only [List.map_cons, List.map_nil, EV,Nat.reduceEqDiff,↓reduceIte,he];try rfl) ?_
  refine Zi3 hO ?_
  refine Zaf ?_
  apply ZaK 7 8
  iterate 2 ·simp only [EV,Nat.reduceEqDiff,↓reduceIte,he];try rfl
  clear he e
  intro e he
  repeat refine Zac ?_
  first|refine Zaa ?_|refine Zad ?_
  refine Zab (Zae rfl he.1 ?_)
  refine Zab ?_
  refine Zao (vs := [.raw (.pointer none), .raw (sV [97])]) (by simp only [List.map_cons, List.map_nil, EV,Nat.reduceEqDiff,↓reduceIte,he];try rfl) ?_
  refine ZnD (.inl rfl) ?_
  refine Zab (Zae rfl (by simp only [EV,Nat.reduceEqDiff,↓reduceIte,he];try rfl) ?_)
  refine Zab ?_
  refine Za8 (l := [.lst none 0 0 [], vT false]) rfl rfl ?_
  refine Zab ?_
  refine Za8 (l := [.lst none 0 0 [], vT false]) rfl rfl ?_
  refine Zab (Zae rfl (by simp only [EV,Nat.reduceEqDiff,↓reduceIte,he];try rfl) ?_)
  refine Zab (Zae rfl (by simp only [EV,Nat.reduceEqDiff,↓reduceIte,he];try rfl) ?_)
  refine Zaf ?_
  apply ZaL 7 8 10
  iterate 3 ·simp only [EV,Nat.reduceEqDiff,↓reduceIte,he];try rfl
  clear he e
  intro e he
  repeat refine Zac ?_
  first|refine Zaa ?_|refine Zad ?_
  refine Zab (Zae rfl he.1 ?_)
  refine Zab ?_
  refine Zao (vs := [.raw (.pointer none)]) (by simp only [List.map_cons, List.map_nil, EV,Nat.reduceEqDiff,↓reduceIte,he];try rfl) ?_
  refine Zko (.inl rfl) ?_
  refine Zab ?_
  refine ZdQ (p := none) Zis rfl rfl rfl ?_
  refine Zab (Zae rfl (by simp only [EV,Nat.reduceEqDiff,↓reduceIte,he];try rfl) ?_)
  refine Zab (Zah (ZaN rfl (by simp only [EV,Nat.reduceEqDiff,↓reduceIte,he];try rfl)) ?_)
  refine Zae rfl he.2.1 ?_
  refine Zab (Zah (ZaN rfl (by simp only [EV,Nat.reduceEqDiff,↓reduceIte,he];try rfl)) ?_)
  refine Zao (vs := [ptr b8 0]) (by simp only [List.map_cons, List.map_nil, EV,Nat.reduceEqDiff,↓reduceIte,he];try rfl) ?_
  refine Zko hO ?_
  refine Zab (Zah (ZaN rfl (by simp only [EV,Nat.reduceEqDiff,↓reduceIte,he];try rfl)) ?_)
  refine ZdQ (p := none) Zis rfl rfl rfl ?_
  refine Zab ?_
  refine ZaG (v := vT true) rfl rfl ?_
  refine Zab (Zae rfl (by simp only [EV,Nat.reduceEqDiff,↓reduceIte,he];try rfl) ?_)
  refine Zab (Zah (ZaN rfl (by simp only [EV,Nat.reduceEqDiff,↓reduceIte,he];try rfl)) ?_)
  refine Zae rfl he.1 ?_
  refine Zab (Zah (ZaN rfl (by simp only [EV,Nat.reduceEqDiff,↓reduceIte,he];try rfl)) ?_)
  refine Zao (vs := [.raw (.pointer none)]) (by simp only [List.map_cons, List.map_nil, EV,Nat.reduceEqDiff,↓reduceIte,he];try rfl) ?_
  refine Zi4 (.inl rfl) ?_
  refine Zab (Zah (ZaN rfl (by simp only [EV,Nat.reduceEqDiff,↓reduceIte,he];try rfl)) ?_)
  refine Zcz (n := 0) (c := 0) (A := none) rfl rfl rfl ZaE ?_
  refine Zab (Zah (ZaN rfl (by simp only [EV,Nat.reduceEqDiff,↓reduceIte,he];try rfl)) ?_)
  refine Zae rfl he.2.1 ?_
  refine Zab (Zah (ZaN rfl (by simp only [EV,Nat.reduceEqDiff,↓reduceIte,he];try rfl)) ?_)
  refine Zao (vs := [ptr b8 0]) (by simp only [List.map_cons, List.map_nil, EV,Nat.reduceEqDiff,↓reduceIte,he];try rfl) ?_
  refine Zi4 hO ?_
  refine Zab (Zah (ZaN rfl (by simp only [EV,Nat.reduceEqDiff,↓reduceIte,he];try rfl)) ?_)
  refine Zcz (n := 0) (c := 0) (A := none) rfl rfl rfl ZaE ?_
  refine Zab (Zah (ZaN rfl (by simp only [EV,Nat.reduceEqDiff,↓reduceIte,he];try rfl)) ?_)
  refine Zig (k := .i64) (a := 0) (b := 0) (r := 0) rfl rfl rfl ?_
  refine Zab (Zah (ZaN rfl (by simp only [EV,Nat.reduceEqDiff,↓reduceIte,he];try rfl)) ?_)
  refine Zae rfl he.1 ?_
  refine Zab (Zah (ZaN rfl (by simp only [EV,Nat.reduceEqDiff,↓reduceIte,he];try rfl)) ?_)
  refine Zao (vs := [.raw (.pointer none)]) (by simp only [List.map_cons, List.map_nil, EV,Nat.reduceEqDiff,↓reduceIte,he];try rfl) ?_
  refine Zi5 (.inl rfl) ?_
  refine Zab (Zah (ZaN rfl (by simp only [EV,Nat.reduceEqDiff,↓reduceIte,he];try rfl)) ?_)
  refine Zig (k := .i64) (a := 0) (b := 0) (r := 0) rfl rfl rfl ?_
  refine Zab (Zah (ZaN rfl (by simp only [EV,Nat.reduceEqDiff,↓reduceIte,he];try rfl)) ?_)
  refine Zae rfl he.2.1 ?_
  refine Zab (Zah (ZaN rfl (by simp only [EV,Nat.reduceEqDiff,↓reduceIte,he];try rfl)) ?_)
  refine Zao (vs := [ptr b8 0]) (by simp only [List.map_cons, List.map_nil, EV,Nat.reduceEqDiff,↓reduceIte,he];try rfl) ?_
  refine Zi5 hO ?_
  refine Zab (Zah (ZaN rfl (by simp only [EV,Nat.reduceEqDiff,↓reduceIte,he];try rfl)) ?_)
  refine Zig (k := .i64) (a := 0) (b := 0) (r := 0) rfl rfl rfl ?_
  refine Zab (Zah (ZaN rfl (by simp only [EV,Nat.reduceEqDiff,↓reduceIte,he];try rfl)) ?_)
  refine Zcn (k := .i64) (a := 0) (b := 0) rfl rfl ?_
  refine Zab ?_
  refine ZaG (v := vT true) rfl rfl ?_
  refine Zab (Zae rfl (by simp only [EV,Nat.reduceEqDiff,↓reduceIte,he];try rfl) ?_)
  refine Zab (Zah (ZaN rfl (by simp only [EV,Nat.reduceEqDiff,↓reduceIte,he];try rfl)) ?_)
  refine Zae rfl he.2.2 ?_
  refine Zab (Zah (ZaN rfl (by simp only [EV,Nat.reduceEqDiff,↓reduceIte,he];try rfl)) ?_)
  refine ZbB (b := false) rfl ?_
  refine Zab ?_
  refine ZaG (v := vT true) rfl rfl ?_
  refine Zab (Zae rfl (by simp only [EV,Nat.reduceEqDiff,↓reduceIte,he];try rfl) ?_)
  refine Zab (Zah (ZaN rfl (by simp only [EV,Nat.reduceEqDiff,↓reduceIte,he];try rfl)) ?_)
  refine Zae rfl he.1 ?_
  refine Zab (Zah (ZaN rfl (by simp only [EV,Nat.reduceEqDiff,↓reduceIte,he];try rfl)) ?_)
  refine Zao (vs := [.raw (.pointer none), .raw (sV [97]), .lst none 0 0 []]) (by simp only [List.map_cons, List.map_nil, EV,Nat.reduceEqDiff,↓reduceIte,he];try rfl) ?_
  refine Zhk (.inl rfl) ?_
  refine Zab (Zah (ZaN rfl (by simp only [EV,Nat.reduceEqDiff,↓reduceIte,he];try rfl)) ?_)
  refine Zcn (k := .i64) (a := 1) (b := 1) rfl rfl ?_
  refine Zab ?_
  refine ZaG (v := vT true) rfl rfl ?_
  refine Zab (Zae rfl (by simp only [EV,Nat.reduceEqDiff,↓reduceIte,he];try rfl) ?_)
  refine Zab (Zah (ZaN rfl (by simp only [EV,Nat.reduceEqDiff,↓reduceIte,he];try rfl)) ?_)
  refine Zae rfl he.2.1 ?_
  refine Zab (Zah (ZaN rfl (by simp only [EV,Nat.reduceEqDiff,↓reduceIte,he];try rfl)) ?_)
  refine Zbd (vs := [.raw (.int .u8 1)]) (cells := bys [1]) (by simp only [List.map_cons, List.map_nil, EV,Nat.reduceEqDiff,↓reduceIte,he];try rfl) Zaw Zbf ZbT rfl (by decide) rfl fun b9 hu9 hb9 => ?_
  have hX9 := Ext.put (σ := υ8) (.tail 5 (1 * 1) (1 * 1)) hb9
  refine Zab (Zah (ZaN rfl (by simp only [EV,Nat.reduceEqDiff,↓reduceIte,he];try rfl)) ?_)
  refine Zbd (vs := [.lst (some ⟨b9, 0, none⟩) 1 1 (bys [1])]) (cells := [.lst (some ⟨b9, 0, none⟩) 1 1 (bys [1])]) (by simp only [List.map_cons, List.map_nil, EV,Nat.reduceEqDiff,↓reduceIte,he];try rfl) Zba ZaJ ZcI rfl (by decide) rfl fun b10 hu10 hb10 => ?_
  have hX10 := hX9.trans (Ext.put (σ := υ8.put b9 (.tail 5 (1 * 1) (1 * 1))) (.tail 32 (1 * 1) (1 * 1)) hb10)
  refine Zab (Zah (ZaN rfl (by simp only [EV,Nat.reduceEqDiff,↓reduceIte,he];try rfl)) ?_)
  refine Zao (vs := [ptr b8 0, .raw (sV [97]), .lst (some ⟨b10, 0, none⟩) 1 1 [.lst (some ⟨b9, 0, none⟩) 1 1 (bys [1])]]) (by simp only [List.map_cons, List.map_nil, EV,Nat.reduceEqDiff,↓reduceIte,he];try rfl) ?_
  refine Zhk (hO.ext hX10) ?_
  refine Zab (Zah (ZaN rfl (by simp only [EV,Nat.reduceEqDiff,↓reduceIte,he];try rfl)) ?_)
  refine Zcn (k := .i64) (a := 1) (b := 1) rfl rfl ?_
  refine Zab ?_
  refine ZaG (v := vT true) rfl rfl ?_
  refine Zab (Zae rfl (by simp only [EV,Nat.reduceEqDiff,↓reduceIte,he];try rfl) ?_)
  refine Zab (Zah (ZaN rfl (by simp only [EV,Nat.reduceEqDiff,↓reduceIte,he];try rfl)) ?_)
  refine Zae rfl he.1 ?_
  refine Zab (Zah (ZaN rfl (by simp only [EV,Nat.reduceEqDiff,↓reduceIte,he];try rfl)) ?_)
  refine Zao (vs := [.raw (.pointer none), .lst none 0 0 []]) (by simp only [List.map_cons, List.map_nil, EV,Nat.reduceEqDiff,↓reduceIte,he];try rfl) ?_
  refine ZnE (.inl rfl) fun υ11 hX11 => ?_
  refine Zab (Zah (ZaN rfl (by simp only [EV,Nat.reduceEqDiff,↓reduceIte,he];try rfl)) ?_)
  refine Zcn (k := .i64) (a := 1) (b := 1) rfl rfl ?_
  refine Zab ?_
  refine ZaG (v := vT true) rfl rfl ?_
  refine Zab (Zae rfl (by simp only [EV,Nat.reduceEqDiff,↓reduceIte,he];try rfl) ?_)
  refine Zab (Zah (ZaN rfl (by simp only [EV,Nat.reduceEqDiff,↓reduceIte,he];try rfl)) ?_)
  refine Zae rfl he.2.1 ?_
  refine Zab (Zah (ZaN rfl (by simp only [EV,Nat.reduceEqDiff,↓reduceIte,he];try rfl)) ?_)
  refine Zao (vs := [ptr b8 0, .raw (sV [97]), .raw (.int .i64 0)]) (by simp only [List.map_cons, List.map_nil, EV,Nat.reduceEqDiff,↓reduceIte,he];try rfl) ?_
  refine ZoL (hO.ext (hX10.trans hX11)) fun υ12 hX12 => ?_
  refine Zab (Zah (ZaN rfl (by simp only [EV,Nat.reduceEqDiff,↓reduceIte,he];try rfl)) ?_)
  refine Zcn (k := .i64) (a := 1) (b := 1) rfl rfl ?_
  refine Zab ?_
  refine ZaG (v := vT true) rfl rfl ?_
  refine Zab (Zae rfl (by simp only [EV,Nat.reduceEqDiff,↓reduceIte,he];try rfl) ?_)
  refine Zab (Zah (ZaN rfl (by simp only [EV,Nat.reduceEqDiff,↓reduceIte,he];try rfl)) ?_)
  refine Zae rfl he.1 ?_
  refine Zab (Zah (ZaN rfl (by simp only [EV,Nat.reduceEqDiff,↓reduceIte,he];try rfl)) ?_)
  refine Zao (vs := [.raw (.pointer none), .raw (sV [97]), .raw (sV [])]) (by simp only [List.map_cons, List.map_nil, EV,Nat.reduceEqDiff,↓reduceIte,he];try rfl) ?_
  refine ZkU (.inl rfl) fun υ13 hX13 => ?_
  refine Zab (Zah (ZaN rfl (by simp only [EV,Nat.reduceEqDiff,↓reduceIte,he];try rfl)) ?_)
  refine Zcn (k := .i64) (a := 1) (b := 1) rfl rfl ?_
  refine Zab ?_
  refine ZaG (v := vT true) rfl rfl ?_
  refine Zab (Zae rfl (by simp only [EV,Nat.reduceEqDiff,↓reduceIte,he];try rfl) ?_)
  refine Zab (Zah (ZaN rfl (by simp only [EV,Nat.reduceEqDiff,↓reduceIte,he];try rfl)) ?_)
  refine Zae rfl he.2.1 ?_
  refine Zab (Zah (ZaN rfl (by simp only [EV,Nat.reduceEqDiff,↓reduceIte,he];try rfl)) ?_)
  refine Zbd (vs := [.raw (sV [97])]) (cells := [.raw (sV [97])]) (by simp only [List.map_cons, List.map_nil, EV,Nat.reduceEqDiff,↓reduceIte,he];try rfl) ZaE Zb3 ZdL rfl (by decide) rfl fun b14 hu14 hb14 => ?_
  have hX14 := Ext.put (σ := υ13) (.tail 9 (1 * 1) (1 * 1)) hb14
  refine Zab (Zah (ZaN rfl (by simp only [EV,Nat.reduceEqDiff,↓reduceIte,he];try rfl)) ?_)
  refine Zao (vs := [ptr b8 0, .lst (some ⟨b14, 0, none⟩) 1 1 [.raw (sV [97])]]) (by simp only [List.map_cons, List.map_nil, EV,Nat.reduceEqDiff,↓reduceIte,he];try rfl) ?_
  refine ZkT (hO.ext ((((hX10.trans hX11).trans hX12).trans hX13).trans hX14)) ?_
  refine Zab (Zah (ZaN rfl (by simp only [EV,Nat.reduceEqDiff,↓reduceIte,he];try rfl)) ?_)
  refine Zcn (k := .i64) (a := 1) (b := 1) rfl rfl ?_
  refine Zab ?_
  refine ZaG (v := vT true) rfl rfl ?_
  refine Zab (Zae rfl (by simp only [EV,Nat.reduceEqDiff,↓reduceIte,he];try rfl) ?_)
  refine Zab (Zah (ZaN rfl (by simp only [EV,Nat.reduceEqDiff,↓reduceIte,he];try rfl)) ?_)
  refine Zao (vs := []) rfl ?_
  refine ZhP fun υ15 hX15 => ?_
  refine Zab ?_
  refine ZaG (v := vT true) rfl rfl ?_
  refine Zab (Zae rfl (by simp only [EV,Nat.reduceEqDiff,↓reduceIte,he];try rfl) ?_)
  refine Zaf ?_
  refine Zax ?_
  show ∃ r, Zaj _ _ _ _ r /\ _
  exact ⟨_, Zal rfl rfl, hK _⟩
end
theorem ZjG : Tr CT Try.prog (fun _ => True) 5 [] [] (.bool true) [] := by
 intro ρ σ vs hs _
 have hv : vs = [] := Zdh.1 hs
 subst hv
 refine ZkE (ZnF fun τ => rfl) (fun w B => ZaY _) _ fun τ hX => ?_
 exact ⟨ρ, Zlh.2 rfl, ZnM _, Nat.zero_le _, fun i hi => absurd hi (Nat.not_lt_zero i), ⟨fun b k _ hk => hX.keep _ _ hk, hX.used⟩, fun b ⟨i, x, hx, _⟩ => by simp at hx⟩
end Go.Proofs.Ytinpiaibhjmfaaa
