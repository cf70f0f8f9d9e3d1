/- Lists of bytes and texts that are lent: with marks behind their ends; kept; written over. -/
import Derived.Test.YtinpiaibhjmfaaaMf
namespace Go.Proofs.Ytinpiaibhjmfaaa
open Go.RowKit
set_option maxRecDepth 100000
set_option linter.unusedVariables false
set_option linter.unusedSimpArgs false
theorem ZjC : Program.underlying Try.prog 3 = some (.int .i64) := by kernel_rfl
theorem Zmr : Program.underlying Try.prog 108 = some (.int .u64) := by kernel_rfl
theorem ZpT : Program.underlying Try.prog 32 = some (.slice 5) := by kernel_rfl
theorem Zms : ZcT Try.prog 9 = some 16 := by kernel_rfl
theorem ZoI : ZcT Try.prog 32 = some 24 := by kernel_rfl
theorem ZdL : ZbL Try.prog 9 = some (.string ⟨#[]⟩) := by kernel_rfl
def mkI (k i : Nat) : Int := 1000003 * ((k : Int) + 7) + i
def mkB (k i : Nat) : Int := IntKind.u8.wrap ((IntKind.u64.wrap (IntKind.u64.wrap (mkI k i) * 11400714819323198485)).fdiv (2 ^ min 56 64))
def tB (x : Int) : UInt8 := UInt8.ofNat (IntKind.u8.wrap x).toNat
theorem ZkQ (x : Int) : IntKind.u8.wrap x = ((tB x).toNat : Int) := by
 have h1 : IntKind.u8.wrap x = x % 256 := IntKind.wrap_u8 x
 unfold tB
 rw [h1, UInt8.toNat_ofNat']
 omega
def mkT (k i : Nat) : List UInt8 := [35, tB k, tB ((k : Int).fdiv (2 ^ min 8 64)), tB ((k : Int).fdiv (2 ^ min 16 64)), 47, tB i, tB ((i : Int).fdiv (2 ^ min 8 64)), tB ((i : Int).fdiv (2 ^ min 16 64))]
section
variable {σ : St} {K : AV -> St -> Prop}
theorem ZoJ {k i : Nat} (hk : k <= 2) (hi : i <= 100000000) (hK : K (vI (mkI k i)) σ) : Zat Try.prog 74 [vI k, vI i] σ K := by
 refine Zam Zas Try.func74 rfl rfl rfl (Nat.le_of_ble_eq_true rfl) ?_
 refine ZaK 0 1 (v0 := vI k) (v1 := vI i) rfl rfl ?_
 intro e he
 repeat refine Zac ?_
 first|refine Zaa ?_|refine Zad ?_
 refine Zab (Zae rfl (by simp only [EV,Nat.reduceEqDiff,↓reduceIte,he];try rfl) ?_)
 refine Zaf ?_
 apply ZaK 0 1
 iterate 2 ·simp only [EV,Nat.reduceEqDiff,↓reduceIte,he];try rfl
 clear he e
 intro e he
 repeat refine Zac ?_
 first|refine Zaa ?_|refine Zad ?_
 refine Zab (Zae rfl he.1 ?_)
 refine Zab ?_
 refine ZaU k 7 rfl rfl (by omega) ?_
 refine Zab ?_
 refine Zn7 (k := .i64) (a := 1000003) (b := ((k + 7 : Nat) : Int)) (r := 1000003 * ((k : Int) + 7)) rfl rfl (by rw [IntWalk.i64_in _ (by omega)]; omega) ?_
 refine Zab (Zae rfl he.2 ?_)
 refine Zab ?_
 refine Zig (k := .i64) (a := 1000003 * ((k : Int) + 7)) (b := (i : Int)) (r := mkI k i) rfl rfl (by unfold mkI; exact IntWalk.i64_in _ (by omega)) ?_
 refine Zab (Zae rfl (by simp only [EV,Nat.reduceEqDiff,↓reduceIte,he];try rfl) ?_)
 refine Zaf ?_
 refine Zax ?_
 show ∃ r, Zaj _ _ _ _ r /\ _
 exact ⟨_, Zal rfl rfl, hK⟩
theorem Zh2 {k i : Nat} (hk : k <= 2) (hi : i <= 100000000) (hK : K (.raw (.int .u8 (mkB k i))) σ) : Zat Try.prog 58 [vI k, vI i] σ K := by
 refine Zam Zas Try.func58 rfl rfl rfl (Nat.le_of_ble_eq_true rfl) ?_
 refine ZaK 0 1 (v0 := vI k) (v1 := vI i) rfl rfl ?_
 intro e he
 repeat refine Zac ?_
 first|refine Zaa ?_|refine Zad ?_
 refine Zab (Zae rfl (by simp only [EV,Nat.reduceEqDiff,↓reduceIte,he];try rfl) ?_)
 refine Zaf ?_
 apply ZaK 0 1
 iterate 2 ·simp only [EV,Nat.reduceEqDiff,↓reduceIte,he];try rfl
 clear he e
 intro e he
 repeat refine Zac ?_
 first|refine Zaa ?_|refine Zad ?_
 refine Zab (Zae rfl he.1 ?_)
 refine Zab (Zae rfl he.2 ?_)
 refine Zab ?_
 refine Zao (vs := [vI k, vI i]) (by simp only [List.map_cons, List.map_nil, EV,Nat.reduceEqDiff,↓reduceIte,he];try rfl) ?_
 refine ZoJ hk hi ?_
 refine Zab ?_
 refine ZeI (a := mkI k i) (r := IntKind.u64.wrap (mkI k i)) ZjC Zmr rfl rfl ?_
 refine Zab ?_
 refine Zn7 (k := .u64) (a := IntKind.u64.wrap (mkI k i)) (b := 11400714819323198485) rfl rfl rfl ?_
 refine Zab ?_
 refine ZlE (k := .u64) (k' := .u64) (a := IntKind.u64.wrap (IntKind.u64.wrap (mkI k i) * 11400714819323198485)) (b := 56) rfl rfl (by omega) ?_
 refine Zab ?_
 refine ZeI (k := .u64) (a := (IntKind.u64.wrap (IntKind.u64.wrap (mkI k i) * 11400714819323198485)).fdiv (2 ^ min 56 64)) (r := mkB k i) Zmr Ziy rfl rfl ?_
 refine Zab (Zae rfl (by simp only [EV,Nat.reduceEqDiff,↓reduceIte,he];try rfl) ?_)
 refine Zaf ?_
 refine Zax ?_
 show ∃ r, Zaj _ _ _ _ r /\ _
 exact ⟨_, Zal rfl rfl, hK⟩
theorem Zkm {k i : Nat} (hK : ∀ τ, Ext σ τ -> K (.raw (sV (mkT k i))) τ) : Zat Try.prog 45 [vI k, vI i] σ K := by
 have hb8 : bys (mkT k i) = [.raw (.int .u8 35), .raw (.int .u8 (tB k).toNat), .raw (.int .u8 (tB ((k : Int).fdiv (2 ^ min 8 64))).toNat), .raw (.int .u8 (tB ((k : Int).fdiv (2 ^ min 16 64))).toNat), .raw (.int .u8 47), .raw (.int .u8 (tB i).toNat), .raw (.int .u8 (tB ((i : Int).fdiv (2 ^ min 8 64))).toNat), .raw (.int .u8 (tB ((i : Int).fdiv (2 ^ min 16 64))).toNat)] := rfl
 refine Zam Zas Try.func45 rfl rfl rfl (Nat.le_of_ble_eq_true rfl) ?_
 refine ZaK 0 1 (v0 := vI k) (v1 := vI i) rfl rfl ?_
 intro e he
 repeat refine Zac ?_
 first|refine Zaa ?_|refine Zad ?_
 refine Zab (Zae rfl (by simp only [EV,Nat.reduceEqDiff,↓reduceIte,he];try rfl) ?_)
 refine Zaf ?_
 apply ZaK 0 1
 iterate 2 ·simp only [EV,Nat.reduceEqDiff,↓reduceIte,he];try rfl
 clear he e
 intro e he
 repeat refine Zac ?_
 first|refine Zaa ?_|refine Zad ?_
 refine Zab (Zae rfl he.1 ?_)
 refine Zab ?_
 refine ZeI (k := .i64) (a := (k : Int)) (r := ((tB k).toNat : Int)) ZjC Ziy rfl (ZkQ _) ?_
 refine Zab (Zae rfl he.1 ?_)
 refine Zab ?_
 refine ZlE (k := .i64) (k' := .u64) (a := (k : Int)) (b := 8) rfl rfl (by omega) ?_
 refine Zab ?_
 refine ZeI (k := .i64) (a := (k : Int).fdiv (2 ^ min 8 64)) (r := ((tB ((k : Int).fdiv (2 ^ min 8 64))).toNat : Int)) ZjC Ziy rfl (ZkQ _) ?_
 refine Zab (Zae rfl he.1 ?_)
 refine Zab ?_
 refine ZlE (k := .i64) (k' := .u64) (a := (k : Int)) (b := 16) rfl rfl (by omega) ?_
 refine Zab ?_
 refine ZeI (k := .i64) (a := (k : Int).fdiv (2 ^ min 16 64)) (r := ((tB ((k : Int).fdiv (2 ^ min 16 64))).toNat : Int)) ZjC Ziy rfl (ZkQ _) ?_
 refine Zab (Zae rfl he.2 ?_)
 refine Zab ?_
 refine ZeI (k := .i64) (a := (i : Int)) (r := ((tB i).toNat : Int)) ZjC Ziy rfl (ZkQ _) ?_
 refine Zab (Zae rfl he.2 ?_)
 refine Zab ?_
 refine ZlE (k := .i64) (k' := .u64) (a := (i : Int)) (b := 8) rfl rfl (by omega) ?_
 refine Zab ?_
 refine ZeI (k := .i64) (a := (i : Int).fdiv (2 ^ min 8 64)) (r := ((tB ((i : Int).fdiv (2 ^ min 8 64))).toNat : Int)) ZjC Ziy rfl (ZkQ _) ?_
 refine Zab (Zae rfl he.2 ?_)
 refine Zab ?_
 refine ZlE (k := .i64) (k' := .u64) (a := (i : Int)) (b := 16) rfl rfl (by omega) ?_
 refine Zab ?_
 refine ZeI (k := .i64) (a := (i : Int).fdiv (2 ^ min 16 64)) (r := ((tB ((i : Int).fdiv (2 ^ min 16 64))).toNat : Int)) ZjC Ziy rfl (ZkQ _) ?_
 refine Zab ?_
 refine Zbd (vs := bys (mkT k i)) (cells := bys (mkT k i)) (by simp only [List.map_cons, List.map_nil, EV,Nat.reduceEqDiff,↓reduceIte,he, hb8] <;> try rfl) Zaw Zbf ZbT rfl (by decide) (by rw [hb8]; rfl) fun b hu hb => ?_
 refine Zab ?_
 refine Zon (bs := mkT k i) (A := some ⟨b, 0, none⟩) (n := 8) (c := 8) (rest := []) ZpT Ziy ZcW (by simp only [EV,Nat.reduceEqDiff,↓reduceIte,he, List.append_nil]) rfl ?_
 refine Zab (Zae rfl (by simp only [EV,Nat.reduceEqDiff,↓reduceIte,he];try rfl) ?_)
 refine Zaf ?_
 refine Zax ?_
 show ∃ r, Zaj _ _ _ _ r /\ _
 exact ⟨_, Zal rfl rfl, hK _ (Ext.put _ hb)⟩
theorem ZiZ {P : Program} {ops : Array Oper} {env : Env} {σ : St} {K : Env -> St -> Prop} {d : Option Nat} {ty t : TypeId} {pos : String} {af : Array Edge} {x y : Operand} {b n c u e sz : Nat} (hx : ev env x = hdr b n c) (hy : ev env y = vI u) (ht : ZaX P t = some e) (hs : ZaO P e = some sz) (hu : u <= c) (h : K (env.put d (hdr b u c)) σ) : aOp P ops ⟨d, .slice t x none (some y) none, ty, pos, af, none⟩ env σ K := by
 refine Zet (A := some ⟨b, 0, none⟩) (n := n) (c := c) (l := 0) (u := u) (ix := [vI u]) hx (by simp [hy]) ht hs (Zld rfl) (Nat.zero_le _) hu ?_
 have e1 : (if c = 0 then (some ⟨b, 0, none⟩ : Option Addr) else (some (⟨b, 0, none⟩ : Addr)).map (·.add (0 * sz))) = some ⟨b, 0, none⟩ := by
  split
  ·rfl
  ·simp [Nat.zero_mul, Zcr]
 rw [e1]
 exact h
def Znt (m : Nat) : List AV := (List.range m).map fun i => .raw (.int .u8 (mkB 1 i))
def Znu (m : Nat) : List AV := (List.range m).map fun i => .raw (sV (mkT 1 i))
theorem Zmt (m : Nat) : Znt (m + 1) = Znt m ++ [.raw (.int .u8 (mkB 1 m))] := by simp [Znt, List.range_succ]
theorem Zmu (m : Nat) : Znu (m + 1) = Znu m ++ [.raw (sV (mkT 1 m))] := by simp [Znu, List.range_succ]
def Zkn (σ : St) (e b n : Nat) (v : AV) (cells marks : List AV) : Prop := ∃ c, v = hdr b n c /\ Hd σ e 1 (hdr b (n + 12) c) (n + 12) (cells ++ marks)
theorem Zkn.bk {e b n : Nat} {v : AV} {cells marks : List AV} (h : Zkn σ e b n v cells marks) : hbk v = some b := by
 obtain ⟨c, rfl, h⟩ := h
 rcases h.2.2 with ⟨_, h0⟩ | ⟨b', c', all, h0, h1, _⟩
 ·omega
 ·unfold hdr at h1
  injection h1 with h1
  injection h1 with h2 h3 h4
  subst h4
  exact ZcU h0
theorem Zkn.hd {e b n : Nat} {v : AV} {cells marks : List AV} (h : Zkn σ e b n v cells marks) (hl : cells.length = n) : Hd σ e 1 v n cells := by
 have hb := h.bk
 obtain ⟨c, rfl, h⟩ := h
 have hc : 0 < c := by
  rcases Nat.eq_zero_or_pos c with q | q
  ·subst q; cases hb
  ·exact q
 obtain ⟨c', all, q0, q1, q2, q3, q4, q5, q6⟩ := h.at_ (ZcU hc)
 unfold hdr at q0
 injection q0 with q0
 injection q0 with _ _ q0
 subst q0
 refine ⟨by rw [hl, Nat.mul_one], fun a ha => h.one a (List.mem_append_left _ ha), .inr ⟨b, c, all, hc, rfl, q1, q2, q3, ?_, by omega, q6⟩⟩
 have : all.take (n * 1) = (all.take ((n + 12) * 1)).take (n * 1) := by rw [List.take_take]; congr 1; omega
 rw [this, q4, <- hl, Nat.mul_one, List.take_left]
theorem Zkn.but {U : Nat -> Prop} {τ : St} {e b n : Nat} {v : AV} {cells marks : List AV} (h : Zkn σ e b n v cells marks) (k : But U σ τ) (hU : ¬ U b) : Zkn τ e b n v cells marks := by
 obtain ⟨c, rfl, h⟩ := h
 refine ⟨c, rfl, h.but k fun b' hb' => ?_⟩
 rw [<- ZdB hb']
 exact hU
theorem Zkn.ext {τ : St} {e b n : Nat} {v : AV} {cells marks : List AV} (h : Zkn σ e b n v cells marks) (k : Ext σ τ) : Zkn τ e b n v cells marks := h.but (U := fun _ => False) k.but id
abbrev ZjD (σ : St) (b : Nat) (v : AV) (d : List UInt8) : Prop := Zkn σ 5 b d.length v (bys d) (Znt 12)
abbrev ZpU (σ : St) (b : Nat) (v : AV) (ns : List (List UInt8)) : Prop := Zkn σ 9 b ns.length v (ZeZ ns) (Znu 12)
theorem ZpV {z a : AV} (ha : Zbi a = true /\ a.cells = [a]) : Zcf (fun i => some (i * 1, 1)) [z] [(0, a)] = some [a] := by
 simp [Zcf, ha.1, ha.2, ZaR]
theorem Znv {v : AV} {d : List UInt8} (hv : ZcY σ v d) (hl : d.length <= 1000000) (hK : ∀ b u τ, ZjD τ b u d -> Ext σ τ -> Za0 σ b -> K u τ) : Zat Try.prog 44 [v] σ K := by
 have hL := hv.ls
 refine Zam Zas Try.func44 rfl rfl rfl (Nat.le_of_ble_eq_true rfl) ?_
 refine Zbz 0 (v0 := v) rfl ?_
 intro e he
 repeat refine Zac ?_
 first|refine Zaa ?_|refine Zad ?_
 refine Zab (Zae rfl (by simp only [EV,Nat.reduceEqDiff,↓reduceIte,he];try rfl) ?_)
 refine Zaf ?_
 apply Zbz 0
 ·simp only [EV,Nat.reduceEqDiff,↓reduceIte,he];try rfl
 clear he e
 intro e he
 repeat refine Zac ?_
 first|refine Zaa ?_|refine Zad ?_
 refine Zab (Zae rfl he ?_)
 refine Zab ?_
 refine ZbD rfl hL rfl Zaw ?_
 refine Zab ?_
 refine ZaU d.length 12 rfl rfl (by omega) ?_
 refine Zab ?_
 refine ZlF (m := d.length + 12) rfl rfl Zaw Zbf ZbT Ziw rfl (by omega) (by omega) (by omega) (by omega) fun b0 υ1 h1 hX1 hn1 => ?_
 refine Zab (Zae rfl (by simp only [EV,Nat.reduceEqDiff,↓reduceIte,he];try rfl) ?_)
 refine Zaf ?_
 apply ZaK 0 3
 iterate 2 ·simp only [EV,Nat.reduceEqDiff,↓reduceIte,he];try rfl
 clear he e
 intro e he
 repeat refine Zac ?_
 first|refine Zaa ?_|refine Zad ?_
 refine Zab (Zae rfl (by simp only [EV,Nat.reduceEqDiff,↓reduceIte,he];try rfl) ?_)
 refine Zab (Zae rfl (by simp only [EV,Nat.reduceEqDiff,↓reduceIte,he];try rfl) ?_)
 refine Zab ?_
 refine Za9 (m := d.length) (news := bys d) (by simp only [EV,Nat.reduceEqDiff,↓reduceIte,he];try rfl) (by simp only [EV,Nat.reduceEqDiff,↓reduceIte,he];try rfl) Zaw Zbf ZbT Ziw rfl (by omega) h1 (hL.ext hX1).src (by unfold maxLen; omega) (by omega) fun v2 υ2 hv2 hB2 hn2 => ?_
 rw [Nat.zero_add, List.nil_append] at hv2
 have hX2 : Ext σ υ2 := But.ext hX1 (fun c hc => by rw [<- ZdB hc]; exact hn1.1) hB2
 have hN2 : ∀ c, hbk v2 = some c -> Za0 σ c := fun c hc => (hn2 c hc).elim (fun q => by rw [<- ZdB q]; exact hn1) fun q => Za0.of q hX1
 refine Zab (Zae rfl (by simp only [EV,Nat.reduceEqDiff,↓reduceIte,he];try rfl) ?_)
 refine Zaf ?_
 apply ZaK 0 3
 iterate 2 ·simp only [EV,Nat.reduceEqDiff,↓reduceIte,he];try rfl
 clear he e
 intro e he
 repeat refine Zac ?_
 first|refine Zaa ?_|refine Zad ?_
 refine Zab (Zae rfl (by simp only [EV,Nat.reduceEqDiff,↓reduceIte,he];try rfl) ?_)
 refine Zaf ?_
 apply ZaL 0 3 4
 iterate 3 ·simp only [EV,Nat.reduceEqDiff,↓reduceIte,he];try rfl
 clear he e
 intro e he
 refine ZaD ?_
 refine ZaV (fun μ env υ => ∃ (i : Nat) (u : AV), μ = 12 - i /\ i <= 12 /\ (env 0 = v /\ env 3 = u /\ env 4 = vI i) /\ Hd υ 5 1 u (d.length + i) (bys d ++ Znt i) /\ Ext σ υ /\ ∀ c, hbk u = some c -> Za0 σ c) ⟨_, 0, v2, rfl, Nat.zero_le _, he, by rw [show Znt 0 = [] from rfl, List.append_nil]; exact hv2, hX2, hN2⟩ ?_
 clear he e hv2 hX2 hN2
 rintro _ e υ ⟨i, u, rfl, hi, he, hu, hX, hN⟩
 repeat refine Zac ?_
 first|refine Zaa ?_|refine Zad ?_
 refine Zab (Zae rfl he.2.2 ?_)
 refine Zab ?_
 refine Zbs i 12 rfl rfl ?_
 refine Zaf ?_
 apply ZaP 0 3 4 13
 iterate 4 ·simp only [EV,Nat.reduceEqDiff,↓reduceIte,he];try rfl
 clear he e
 intro e he
 refine Zav (t := decide (i < 12)) he.2.2.2 (fun ht => ?_) (fun ht => ?_)
 ·have hlt : i < 12 := of_decide_eq_true ht
  refine Zaz ?_
  refine ZaD ?_
  repeat refine Zac ?_
  first|refine Zaa ?_|refine Zad ?_
  refine Zab (Zae rfl he.2.1 ?_)
  refine Zab (Zae rfl he.2.2.1 ?_)
  refine Zab ?_
  refine Zao (vs := [vI (1 : Nat), vI i]) (by simp only [List.map_cons, List.map_nil, EV,Nat.reduceEqDiff,↓reduceIte,he];try rfl) ?_
  refine Zh2 (by omega) (by omega) ?_
  refine Zab ?_
  refine Zbd (vs := [.raw (.int .u8 (mkB 1 i))]) (cells := [.raw (.int .u8 (mkB 1 i))]) (by simp only [List.map_cons, List.map_nil, EV,Nat.reduceEqDiff,↓reduceIte,he];try rfl) Zaw Zbf ZbT rfl (by decide) rfl fun b3 hu3 hb3 => ?_
  have hX3 := Ext.put (σ := υ) (.tail 5 (1 * 1) (1 * 1)) hb3
  refine Zab ?_
  refine Za9 (m := 1) (news := [.raw (.int .u8 (mkB 1 i))]) (by simp only [EV,Nat.reduceEqDiff,↓reduceIte,he];try rfl) (by simp only [EV,Nat.reduceEqDiff,↓reduceIte,he];try rfl) Zaw Zbf ZbT Ziw rfl (by omega) (hu.ext hX3) (ZbY (rest := []) rfl (fun a ha => by rw [List.mem_singleton.1 ha]; rfl) (fun q => by cases q)) (by unfold maxLen; omega) (by omega) fun v4 υ4 hv4 hB4 hn4 => ?_
  refine Zab (Zae rfl (by simp only [EV,Nat.reduceEqDiff,↓reduceIte,he];try rfl) ?_)
  refine Zaf ?_
  apply ZaL 0 3 4
  iterate 3 ·simp only [EV,Nat.reduceEqDiff,↓reduceIte,he];try rfl
  clear he e
  intro e he
  repeat refine Zac ?_
  first|refine Zaa ?_|refine Zad ?_
  refine Zab (Zae rfl he.2.2 ?_)
  refine Zab ?_
  refine ZaU i 1 rfl rfl (by omega) ?_
  refine Zab (Zae rfl (by simp only [EV,Nat.reduceEqDiff,↓reduceIte,he];try rfl) ?_)
  refine Zaf ?_
  show ∃ n', n' < _ /\ _
  refine ⟨_, (by omega : 12 - (i + 1) < 12 - i), i + 1, v4, rfl, hlt, ⟨by simp only [EV,Nat.reduceEqDiff,↓reduceIte,he];try rfl, by simp only [EV,Nat.reduceEqDiff,↓reduceIte,he];try rfl, by simp only [EV,Nat.reduceEqDiff,↓reduceIte,he];try rfl⟩, ?_, But.ext (hX.trans hX3) (fun c hc => (hN c hc).1) hB4, fun c hc => (hn4 c hc).elim (fun q => hN c q) fun q => Za0.of q (hX.trans hX3)⟩
  rw [Zmt, <- List.append_assoc]
  exact hv4
 ·have hi12 : i = 12 := by have := of_decide_eq_false ht; omega
  subst hi12
  refine Zbe ?_
  show Zay _ _ _ _ _ _
  rcases hu.2.2 with ⟨_, h0⟩ | ⟨b, c, all, hc, rfl, g1, g2, g3, g4, g5, g6⟩
  ·omega
  repeat refine Zac ?_
  first|refine Zaa ?_|refine Zad ?_
  refine Zab (Zae rfl he.2.1 ?_)
  refine Zab (Zae rfl he.1 ?_)
  refine Zab ?_
  refine ZbD rfl (hL.ext hX) rfl Zaw ?_
  refine Zab ?_
  refine ZiZ (b := b) (n := d.length + 12) (c := c) (u := d.length) rfl rfl Zaw Zbf (by omega) ?_
  refine Zab (Zae rfl (by simp only [EV,Nat.reduceEqDiff,↓reduceIte,he];try rfl) ?_)
  refine Zaf ?_
  refine Zax ?_
  show ∃ r, Zaj _ _ _ _ r /\ _
  exact ⟨_, Zal rfl rfl, hK b _ _ ⟨c, rfl, hu⟩ hX (hN b (ZcU hc))⟩
theorem Znw {v : AV} {ns : List (List UInt8)} (hL : Ls σ 9 v ns.length (ZeZ ns)) (hl : ns.length <= 1000000) (hK : ∀ b u τ, ZpU τ b u ns -> Ext σ τ -> Za0 σ b -> K u τ) : Zat Try.prog 21 [v] σ K := by
 refine Zam Zas Try.func21 rfl rfl rfl (Nat.le_of_ble_eq_true rfl) ?_
 refine Zbz 0 (v0 := v) rfl ?_
 intro e he
 repeat refine Zac ?_
 first|refine Zaa ?_|refine Zad ?_
 refine Zab (Zae rfl (by simp only [EV,Nat.reduceEqDiff,↓reduceIte,he];try rfl) ?_)
 refine Zaf ?_
 apply Zbz 0
 ·simp only [EV,Nat.reduceEqDiff,↓reduceIte,he];try rfl
 clear he e
 intro e he
 repeat refine Zac ?_
 first|refine Zaa ?_|refine Zad ?_
 refine Zab (Zae rfl he ?_)
 refine Zab ?_
 refine ZbD rfl hL rfl ZaE ?_
 refine Zab ?_
 refine ZaU ns.length 12 rfl rfl (by omega) ?_
 refine Zab ?_
 refine ZlF (m := ns.length + 12) rfl rfl ZaE Zb3 ZdL Zms rfl (by omega) (by omega) (by omega) (by omega) fun b0 υ1 h1 hX1 hn1 => ?_
 refine Zab (Zae rfl (by simp only [EV,Nat.reduceEqDiff,↓reduceIte,he];try rfl) ?_)
 refine Zaf ?_
 apply ZaK 0 3
 iterate 2 ·simp only [EV,Nat.reduceEqDiff,↓reduceIte,he];try rfl
 clear he e
 intro e he
 repeat refine Zac ?_
 first|refine Zaa ?_|refine Zad ?_
 refine Zab (Zae rfl (by simp only [EV,Nat.reduceEqDiff,↓reduceIte,he];try rfl) ?_)
 refine Zab (Zae rfl (by simp only [EV,Nat.reduceEqDiff,↓reduceIte,he];try rfl) ?_)
 refine Zab ?_
 refine Za9 (m := ns.length) (news := ZeZ ns) (by simp only [EV,Nat.reduceEqDiff,↓reduceIte,he];try rfl) (by simp only [EV,Nat.reduceEqDiff,↓reduceIte,he];try rfl) ZaE Zb3 ZdL Zms rfl (by omega) h1 (hL.ext hX1).src (by unfold maxLen; omega) (by omega) fun v2 υ2 hv2 hB2 hn2 => ?_
 rw [Nat.zero_add, List.nil_append] at hv2
 have hX2 : Ext σ υ2 := But.ext hX1 (fun c hc => by rw [<- ZdB hc]; exact hn1.1) hB2
 have hN2 : ∀ c, hbk v2 = some c -> Za0 σ c := fun c hc => (hn2 c hc).elim (fun q => by rw [<- ZdB q]; exact hn1) fun q => Za0.of q hX1
 refine Zab (Zae rfl (by simp only [EV,Nat.reduceEqDiff,↓reduceIte,he];try rfl) ?_)
 refine Zaf ?_
 apply ZaK 0 3
 iterate 2 ·simp only [EV,Nat.reduceEqDiff,↓reduceIte,he];try rfl
 clear he e
 intro e he
 repeat refine Zac ?_
 first|refine Zaa ?_|refine Zad ?_
 refine Zab (Zae rfl (by simp only [EV,Nat.reduceEqDiff,↓reduceIte,he];try rfl) ?_)
 refine Zaf ?_
 apply ZaL 0 3 4
 iterate 3 ·simp only [EV,Nat.reduceEqDiff,↓reduceIte,he];try rfl
 clear he e
 intro e he
 refine ZaD ?_
 refine ZaV (fun μ env υ => ∃ (i : Nat) (u : AV), μ = 12 - i /\ i <= 12 /\ (env 0 = v /\ env 3 = u /\ env 4 = vI i) /\ Hd υ 9 1 u (ns.length + i) (ZeZ ns ++ Znu i) /\ Ext σ υ /\ ∀ c, hbk u = some c -> Za0 σ c) ⟨_, 0, v2, rfl, Nat.zero_le _, he, by rw [show Znu 0 = [] from rfl, List.append_nil]; exact hv2, hX2, hN2⟩ ?_
 clear he e hv2 hX2 hN2
 rintro _ e υ ⟨i, u, rfl, hi, he, hu, hX, hN⟩
 repeat refine Zac ?_
 first|refine Zaa ?_|refine Zad ?_
 refine Zab (Zae rfl he.2.2 ?_)
 refine Zab ?_
 refine Zbs i 12 rfl rfl ?_
 refine Zaf ?_
 apply ZaP 0 3 4 13
 iterate 4 ·simp only [EV,Nat.reduceEqDiff,↓reduceIte,he];try rfl
 clear he e
 intro e he
 refine Zav (t := decide (i < 12)) he.2.2.2 (fun ht => ?_) (fun ht => ?_)
 ·have hlt : i < 12 := of_decide_eq_true ht
  refine Zaz ?_
  refine ZaD ?_
  repeat refine Zac ?_
  first|refine Zaa ?_|refine Zad ?_
  refine Zab (Zae rfl he.2.1 ?_)
  refine Zab (Zae rfl he.2.2.1 ?_)
  refine Zab ?_
  refine Zao (vs := [vI (1 : Nat), vI i]) (by simp only [List.map_cons, List.map_nil, EV,Nat.reduceEqDiff,↓reduceIte,he];try rfl) ?_
  refine Zkm fun υ2 hXm => ?_
  refine Zab ?_
  refine Zbd (vs := [.raw (sV (mkT 1 i))]) (cells := [.raw (sV (mkT 1 i))]) (by simp only [List.map_cons, List.map_nil, EV,Nat.reduceEqDiff,↓reduceIte,he];try rfl) ZaE Zb3 ZdL rfl (by decide) rfl fun b3 hu3 hb3 => ?_
  have hX3 := hXm.trans (Ext.put (σ := υ2) (.tail 9 (1 * 1) (1 * 1)) hb3)
  refine Zab ?_
  refine Za9 (m := 1) (news := [.raw (sV (mkT 1 i))]) (by simp only [EV,Nat.reduceEqDiff,↓reduceIte,he];try rfl) (by simp only [EV,Nat.reduceEqDiff,↓reduceIte,he];try rfl) ZaE Zb3 ZdL Zms rfl (by omega) (hu.ext hX3) (ZbY (rest := []) rfl (fun a ha => by rw [List.mem_singleton.1 ha]; rfl) (fun q => by cases q)) (by unfold maxLen; omega) (by omega) fun v4 υ4 hv4 hB4 hn4 => ?_
  refine Zab (Zae rfl (by simp only [EV,Nat.reduceEqDiff,↓reduceIte,he];try rfl) ?_)
  refine Zaf ?_
  apply ZaL 0 3 4
  iterate 3 ·simp only [EV,Nat.reduceEqDiff,↓reduceIte,he];try rfl
  clear he e
  intro e he
  repeat refine Zac ?_
  first|refine Zaa ?_|refine Zad ?_
  refine Zab (Zae rfl he.2.2 ?_)
  refine Zab ?_
  refine ZaU i 1 rfl rfl (by omega) ?_
  refine Zab (Zae rfl (by simp only [EV,Nat.reduceEqDiff,↓reduceIte,he];try rfl) ?_)
  refine Zaf ?_
  show ∃ n', n' < _ /\ _
  refine ⟨_, (by omega : 12 - (i + 1) < 12 - i), i + 1, v4, rfl, hlt, ⟨by simp only [EV,Nat.reduceEqDiff,↓reduceIte,he];try rfl, by simp only [EV,Nat.reduceEqDiff,↓reduceIte,he];try rfl, by simp only [EV,Nat.reduceEqDiff,↓reduceIte,he];try rfl⟩, ?_, But.ext (hX.trans hX3) (fun c hc => (hN c hc).1) hB4, fun c hc => (hn4 c hc).elim (fun q => hN c q) fun q => Za0.of q (hX.trans hX3)⟩
  rw [Zmu, <- List.append_assoc]
  exact hv4
 ·have hi12 : i = 12 := by have := of_decide_eq_false ht; omega
  subst hi12
  refine Zbe ?_
  show Zay _ _ _ _ _ _
  rcases hu.2.2 with ⟨_, h0⟩ | ⟨b, c, all, hc, rfl, g1, g2, g3, g4, g5, g6⟩
  ·omega
  repeat refine Zac ?_
  first|refine Zaa ?_|refine Zad ?_
  refine Zab (Zae rfl he.2.1 ?_)
  refine Zab (Zae rfl he.1 ?_)
  refine Zab ?_
  refine ZbD rfl (hL.ext hX) rfl ZaE ?_
  refine Zab ?_
  refine ZiZ (b := b) (n := ns.length + 12) (c := c) (u := ns.length) rfl rfl ZaE Zb3 (by omega) ?_
  refine Zab (Zae rfl (by simp only [EV,Nat.reduceEqDiff,↓reduceIte,he];try rfl) ?_)
  refine Zaf ?_
  refine Zax ?_
  show ∃ r, Zaj _ _ _ _ r /\ _
  exact ⟨_, Zal rfl rfl, hK b _ _ ⟨c, rfl, hu⟩ hX (hN b (ZcU hc))⟩
end
end Go.Proofs.Ytinpiaibhjmfaaa
