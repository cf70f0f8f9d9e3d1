/- Books, exactly: what is decided, written, read (round 21Z: RegistryTurns). -/
import Derived.Test.YtaihdjknneiciaaGreatRyt
namespace Go.Proofs.YtaihdjknneiciaaGreat
open Go.RowKit
set_option maxRecDepth 100000
set_option linter.unusedVariables false
set_option linter.unusedSimpArgs false
def vrightB (v : DVerdict) : Bool := decide (1 ≤ v.name.client) && (decide (v.name.client ≤ 8) && (decide (1 ≤ v.name.num) && (decide (v.name.num ≤ 1073741824) && (decide (1 ≤ v.at_) && (decide (v.at_ ≤ 1073741824) && (decide (v.reads.length ≤ 6) && ((v.commit || decide (v.reads.length = 0)) && !v.reads.any vwrongB)))))))
theorem vrightB_iff {v : DVerdict} : vrightB v = true ↔ (1 ≤ v.name.client ∧ v.name.client ≤ 8) ∧ (1 ≤ v.name.num ∧ v.name.num ≤ 1073741824) ∧ (1 ≤ v.at_ ∧ v.at_ ≤ 1073741824) ∧ v.reads.length ≤ 6 ∧ (v.commit = true ∨ v.reads.length = 0) ∧ v.reads.any vwrongB = false := by
  unfold vrightB
  simp only [Bool.and_eq_true, Bool.or_eq_true, decide_eq_true_eq, Bool.not_eq_true']
  constructor
  · rintro ⟨a, b, c, d, e, f, g, h, i⟩; exact ⟨⟨a, b⟩, ⟨c, d⟩, ⟨e, f⟩, g, h, i⟩
  · rintro ⟨⟨a, b⟩, ⟨c, d⟩, ⟨e, f⟩, g, h, i⟩; exact ⟨a, b, c, d, e, f, g, h, i⟩
theorem Right1_v {v : DVerdict} (hx : ∀ x ∈ v.reads, OkT x.key) (hl : v.reads.length ≤ 140737488355328) : ruling_Right1 v = some (!vrightB v, ()) := by
  have ha := any6_p hx hl
  unfold ruling_Right1 vrightB
  have hn : act_Name v.name = some (decide (1 ≤ v.name.client) && (decide (v.name.client ≤ 8) && (decide (1 ≤ v.name.num) && decide (v.name.num ≤ 1073741824))), ()) := by
    unfold act_Name
    cases decide ((1 : Int) ≤ v.name.client)
    · rfl
    cases decide ((v.name.client : Int) ≤ 8)
    · rfl
    cases decide ((1 : Int) ≤ v.name.num) <;> rfl
  refine bindS hn ?_
  dsimp only
  cases h1 : decide (1 ≤ v.name.client)
  · rfl
  cases h2 : decide (v.name.client ≤ 8)
  · rfl
  cases h3 : decide (1 ≤ v.name.num)
  · rfl
  cases h4 : decide (v.name.num ≤ 1073741824)
  · rfl
  simp only [Bool.true_and, Bool.not_true, cond_false]
  by_cases h5 : v.at_ < 1
  · refine condT (dT h5) ?_
    rw [decide_eq_false (by omega : ¬ 1 ≤ v.at_)]; rfl
  refine condF (dF h5) ?_
  rw [decide_eq_true (by omega : 1 ≤ v.at_), Bool.true_and]
  by_cases h6 : 1073741824 < v.at_
  · refine condT (dT h6) ?_
    rw [decide_eq_false (by omega : ¬ v.at_ ≤ 1073741824)]; rfl
  refine condF (dF h6) ?_
  rw [decide_eq_true (by omega : v.at_ ≤ 1073741824), Bool.true_and]
  by_cases h7 : (6 : Int) < (v.reads.length : Int)
  · refine condT (dT h7) ?_
    rw [decide_eq_false (by omega : ¬ v.reads.length ≤ 6)]; rfl
  refine condF (dF h7) ?_
  rw [decide_eq_true (by omega : v.reads.length ≤ 6), Bool.true_and]
  cases h8 : v.commit
  · by_cases h9 : (0 : Int) < (v.reads.length : Int)
    · refine condT rfl (condT (dT h9) ?_)
      rw [decide_eq_false (by omega : ¬ v.reads.length = 0)]; rfl
    · refine condT rfl (condF (dF h9) (bindS ha ?_))
      rw [decide_eq_true (by omega : v.reads.length = 0)]
      simp
  · refine condF rfl (bindS ha ?_)
    simp
theorem Right_v {v : DVerdict} (hx : ∀ x ∈ v.reads, OkT x.key) (hl : v.reads.length ≤ 140737488355328) : ruling_Right [v] = some (vrightB v, ()) := by
  have hb := Right1_v hx hl
  unfold ruling_Right slices_ContainsFunc_4 slices_IndexFunc_7
  cases hr : vrightB v with
  | false =>
    rw [hr] at hb
    have h1 : loopM slices_IndexFunc_7_l1 (([v], (), (([v] : List DVerdict).length : Int), 0, ()), ()) = some (.inl ((0, ()), ())) := by
      refine loopM_end ?_
      unfold slices_IndexFunc_7_l1
      exact condT (dT (by simp)) (bindS (v := v) rfl (bindS hb (condT rfl rfl)))
    exact bindS (bindS (bindS h1 rfl) rfl) rfl
  | true =>
    rw [hr] at hb
    have h1 : loopM slices_IndexFunc_7_l1 (([v], (), (([v] : List DVerdict).length : Int), 0, ()), ()) = some (.inr ((), ())) := by
      refine (loopM_next (a' := (([v], (), (([v] : List DVerdict).length : Int), 1, ()), ())) ?_).trans (loopM_end ?_)
      · unfold slices_IndexFunc_7_l1
        refine condT (dT (by simp)) (bindS (v := v) rfl (bindS hb (condF rfl ?_)))
        rfl
      · unfold slices_IndexFunc_7_l1
        exact condF (dF (by simp)) rfl
    exact bindS (bindS (bindS h1 rfl) rfl) rfl
def lastA (l : List DVerdict) : Int := (l.getLast?.map (·.at_)).getD 0
theorem last_v (l : List DVerdict) (m : Nm) (hl : l.length ≤ 1000000) : ruling_last (l, (), ()) m = some (lastA l, ((l, (), ()), m, (), (), ())) := by
  unfold ruling_last
  by_cases h0 : l = []
  · subst h0; exact condT rfl rfl
  · have hp : 0 < l.length := List.length_pos_iff.2 h0
    have hg : l.getLast? = some l[l.length - 1] := by rw [List.getLast?_eq_getElem?, List.getElem?_eq_getElem]
    refine condF (dF (by (try dsimp only); omega)) (bindS (v := l[l.length - 1]) ?_ ?_)
    · dsimp only
      rw [w64 (by omega), show (l.length : Int) - 1 = ((l.length - 1 : Nat) : Int) from by omega]
      exact getI_lt (by omega)
    · unfold lastA
      rw [hg]
      rfl
/-- What is decided. -/
def decF (l : List DVerdict) (m : Nm) (v : DVerdict) : (DVerdict × Int) × List DVerdict × Nm :=
  if vrightB v = true then match mget (.two .i64 .i64) m (nk v.name) with
    | some i => ((l.getD i.toNat noV, 0), l, m)
    | none => if v.at_ ≤ lastA l then ((noV, 2), l, m) else ((v, 0), l ++ [v], mput (.two .i64 .i64) m (nk v.name) (l.length : Int))
  else ((noV, 2), l, m)
theorem Decide_v {l : List DVerdict} {m : Nm} (h : BookOk l m) (v : DVerdict) (hv : v.reads.length ≤ 1000) (hx : ∀ x ∈ v.reads, OkT x.key) (hl : l.length ≤ 1000000) :
    ruling_Decide v (l, (), ()) m = some (((decF l m v).1.1, (decF l m v).1.2, ()), (((decF l m v).2.1, (), ()), (decF l m v).2.2, (), (), ())) := by
  have hb := Right_v hx (by omega)
  have ha := last_v l m hl
  unfold ruling_Decide
  have hk : ruling_known (l, (), ()) m = some (true, ((l, (), ()), m, (), (), ())) := rfl
  refine bindS hk (condF rfl (bindS hb ?_))
  unfold decF
  cases hr : vrightB v with
  | false => exact condT rfl rfl
  | true =>
    rw [if_pos rfl]
    refine condF rfl ?_
    rcases bOf_p h v.name with ⟨h1, h2⟩ | ⟨k, hk', h1, h2⟩
    · rw [h1]
      refine bindS h2 (condF rfl (bindS ha ?_))
      dsimp only
      by_cases hc : v.at_ ≤ lastA l
      · rw [if_pos hc]
        exact condT (dT hc) rfl
      · rw [if_neg hc]
        obtain ⟨p1, p2⟩ := put_b h v (by obtain ⟨_, _, _, q, _⟩ := vrightB_iff.1 hr; omega) hl h1
        exact condF (dF hc) (bindS p1 (bindS (copied_p (by omega)) rfl))
    · have hm := h.at_ k hk'
      rw [h1] at hm
      rw [hm]
      refine bindS h2 (condT rfl ?_)
      dsimp only
      rw [Int.toNat_natCast, List.getD_eq_getElem?_getD, List.getElem?_eq_getElem hk']
      rfl
/-- A book that grew verdict by verdict. -/
inductive Bks : List DVerdict → Nm → Prop
  | nil : Bks [] []
  | snoc {l m v} : Bks l m → vrightB v = true → (∀ x ∈ v.reads, OkT x.key) → mget (.two .i64 .i64) m (nk v.name) = none → lastA l < v.at_ → l.length ≤ 1000 → Bks (l ++ [v]) (mput (.two .i64 .i64) m (nk v.name) (l.length : Int))
theorem Bks.ok {l : List DVerdict} {m : Nm} (h : Bks l m) : BookOk l m := by
  induction h with
  | nil => exact BookOk.nil
  | snoc _ h1 _ h2 _ h3 ih => exact (put_b ih _ (by obtain ⟨_, _, _, q, _⟩ := vrightB_iff.1 h1; omega) (by omega) h2).2
theorem Bks.all {l : List DVerdict} {m : Nm} (h : Bks l m) : ∀ v ∈ l, vrightB v = true ∧ ∀ x ∈ v.reads, OkT x.key := by
  induction h with
  | nil => intro v hv; simp at hv
  | snoc _ h1 h1x h2 _ h3 ih =>
    intro v hv
    rcases List.mem_append.1 hv with hv | hv
    · exact ih v hv
    · rw [List.mem_singleton.1 hv]; exact ⟨h1, h1x⟩
theorem Bks.dec {l : List DVerdict} {m : Nm} (h : Bks l m) {v : DVerdict} (hx : ∀ x ∈ v.reads, OkT x.key) (hl : l.length ≤ 1000) : Bks (decF l m v).2.1 (decF l m v).2.2 ∧ (decF l m v).2.1.length ≤ l.length + 1 ∧ ((decF l m v).1.2 ≠ 0 → (decF l m v).2.1 = l ∧ (decF l m v).2.2 = m) := by
  unfold decF
  split
  · rename_i hr
    split
    · exact ⟨h, by (try dsimp only); omega, fun _ => ⟨rfl, rfl⟩⟩
    · rename_i hg
      split
      · exact ⟨h, by (try dsimp only); omega, fun _ => ⟨rfl, rfl⟩⟩
      · exact ⟨.snoc h hr hx hg (by omega) hl, by simp, fun h => absurd rfl h⟩
  · exact ⟨h, by (try dsimp only); omega, fun _ => ⟨rfl, rfl⟩⟩
/-! As bytes. -/
def rdB (r : DRead) : List UInt8 := rowF r.key ++ flagF r.is ++ rowF r.value
def rdsB (l : List DRead) : List UInt8 := (l.map rdB).flatten
def verB (v : DVerdict) : List UInt8 := catN [v.name.client, v.name.num, v.at_] ++ flagF v.commit ++ catN [(v.reads.length : Int)] ++ rdsB v.reads
def bodyV (l : List DVerdict) : List UInt8 := (l.map verB).flatten
theorem rdsB_snoc (l : List DRead) (x : DRead) : rdsB (l ++ [x]) = rdsB l ++ rdB x := by simp [rdsB]
theorem bodyV_snoc (l : List DVerdict) (x : DVerdict) : bodyV (l ++ [x]) = bodyV l ++ verB x := by simp [bodyV]
theorem read_right {v : DVerdict} (h : vrightB v = true) {x : DRead} (hx : x ∈ v.reads) : x.key.length ≤ 20 ∧ x.value.length ≤ 20 ∧ vwrongB x = false := by
  obtain ⟨_, _, _, _, _, q⟩ := vrightB_iff.1 h
  have hw : vwrongB x = false := by
    cases hq : vwrongB x
    · rfl
    · exact absurd (List.any_eq_true.2 ⟨x, hx, hq⟩) (by rw [q]; simp)
  unfold vwrongB at hw
  simp only [Bool.or_eq_false_iff, Bool.not_eq_false', decide_eq_false_iff_not] at hw
  exact ⟨keyB_len hw.1, by omega, by unfold vwrongB; simp only [Bool.or_eq_false_iff, Bool.not_eq_false', decide_eq_false_iff_not]; exact hw⟩
theorem rdB_len {v : DVerdict} (h : vrightB v = true) {x : DRead} (hx : x ∈ v.reads) : (rdB x).length ≤ 59 := by
  obtain ⟨h1, h2, _⟩ := read_right h hx
  have r1 := rowF_len h1
  have r2 := rowF_len h2
  unfold rdB
  simp only [List.length_append, flagF, List.length_singleton]
  omega
theorem rdsB_len {v : DVerdict} (h : vrightB v = true) (i : Nat) : (rdsB (v.reads.take i)).length ≤ 59 * i := by
  induction i with
  | zero => simp [rdsB]
  | succ i ih =>
    by_cases hi : i < v.reads.length
    · rw [List.take_succ_eq_append_getElem hi, rdsB_snoc, List.length_append]
      have := rdB_len h (List.getElem_mem hi)
      omega
    · rw [List.take_of_length_le (by omega)]
      rw [List.take_of_length_le (by omega)] at ih
      omega
theorem ver_nums {v : DVerdict} (h : vrightB v = true) : ([v.name.client, v.name.num, v.at_] : List Int).all goodB = true ∧ ([(v.reads.length : Int)] : List Int).all goodB = true := by
  obtain ⟨h1, h2, h3, h4, _⟩ := vrightB_iff.1 h
  constructor
  · simp [good1 (x := v.name.client) (by omega) (by omega), good1 (x := v.name.num) (by omega) (by omega), good1 (x := v.at_) (by omega) (by omega)]
  · simp [good1 (x := (v.reads.length : Int)) (by omega) (by omega)]
theorem verB_len {v : DVerdict} (h : vrightB v = true) : (verB v).length ≤ 400 := by
  obtain ⟨g1, g2⟩ := ver_nums h
  have l1 := catN_len _ g1
  have l2 := catN_len _ g2
  have l3 := rdsB_len h v.reads.length
  obtain ⟨_, _, _, q, _⟩ := vrightB_iff.1 h
  rw [List.take_length] at l3
  unfold verB
  simp only [List.length_append, flagF, List.length_cons, List.length_nil] at *
  omega
theorem bodyV_len {l : List DVerdict} (h : ∀ v ∈ l, vrightB v = true) (i : Nat) : (bodyV (l.take i)).length ≤ 400 * i := by
  induction i with
  | zero => simp [bodyV]
  | succ i ih =>
    by_cases hi : i < l.length
    · rw [List.take_succ_eq_append_getElem hi, bodyV_snoc, List.length_append]
      have := verB_len (h _ (List.getElem_mem hi))
      omega
    · rw [List.take_of_length_le (by omega)]
      rw [List.take_of_length_le (by omega)] at ih
      omega
theorem wreads_g {v : DVerdict} (h : vrightB v = true) {l : List DVerdict} {L i : Int} {sp : Bool} {b : List UInt8} (hb : b.length ≤ 60000) : loopM ruling_Write_l2 (((), l, L, i, v.reads, (v.reads.length : Int), 0, ()), ((true, sp, b, ()), (), ())) = some (((), l, L, i, ()), ((true, sp, b ++ rdsB v.reads, ()), (), (), ())) := by
  obtain ⟨_, _, _, q, _⟩ := vrightB_iff.1 h
  have h0 : b = b ++ rdsB (v.reads.take 0) := by simp [rdsB]
  conv => lhs; rw [h0]
  refine loopM_run (step := ruling_Write_l2) (fun k : Nat => (((), l, L, i, v.reads, (v.reads.length : Int), (k : Int), ()), ((true, sp, b ++ rdsB (v.reads.take k), ()), (), ()))) (N := v.reads.length) (fun k hk => ?_) ?_
  · obtain ⟨g1, g2, _⟩ := read_right h (List.getElem_mem hk)
    have hsl := rdsB_len h k
    have r1 := rowF_len g1
    have t1 := Texts_1 (t := v.reads[k].key) (sp := sp) (b := b ++ rdsB (v.reads.take k)) (by omega) (by rw [List.length_append]; omega)
    have f1 := Flags_1A v.reads[k].is sp (b := b ++ rdsB (v.reads.take k) ++ rowF v.reads[k].key) (by simp only [List.length_append]; omega)
    have t2 := Texts_1A (t := v.reads[k].value) (sp := sp) (b := b ++ rdsB (v.reads.take k) ++ rowF v.reads[k].key ++ flagF v.reads[k].is) (by omega) (by simp only [List.length_append, flagF, List.length_singleton]; omega)
    unfold ruling_Write_l2
    refine condT (dT (by (try dsimp only); omega)) (bindS (getI_lt hk) (bindS t1 (bindS f1 (bindS t2 ?_))))
    dsimp only
    rw [w64 (by omega), List.take_succ_eq_append_getElem hk, rdsB_snoc]
    unfold rdB
    simp only [List.append_assoc]
    rfl
  · unfold ruling_Write_l2
    refine condF (dF (by (try dsimp only); omega)) ?_
    dsimp only
    rw [List.take_length]
theorem bwrite_g {l : List DVerdict} (h : ∀ v ∈ l, vrightB v = true) (hl : l.length ≤ 100) (m : Nm) {sp : Bool} {b : List UInt8} (hb : b.length ≤ 10000) : ruling_Write (l, (), ()) (true, sp, b, ()) m = some ((), ((l, (), ()), (true, sp, b ++ (catN [(l.length : Int)] ++ bodyV l), ()), m, (), (), (), (), ())) := by
  have hg : ([(l.length : Int)] : List Int).all goodB = true := by simp [good1 (x := (l.length : Int)) (by omega) (by omega)]
  have l1 := catN_len _ hg
  simp only [List.length_cons, List.length_nil] at l1
  have n1 := Numbers_g (sp := sp) (b := b) hg (by simp) (by omega)
  generalize hC : b ++ catN [(l.length : Int)] = C at n1
  have hCl : C.length ≤ 10009 := by rw [← hC, List.length_append]; omega
  have key : loopM ruling_Write_l1 (((), l, (l.length : Int), 0, ()), ((true, sp, C, ()), (), ())) = some (((), ()), ((true, sp, C ++ bodyV l, ()), (), (), ())) := by
    have h0 : C = C ++ bodyV (l.take 0) := by simp [bodyV]
    conv => lhs; rw [h0]
    refine loopM_run (step := ruling_Write_l1) (fun i : Nat => (((), l, (l.length : Int), (i : Int), ()), ((true, sp, C ++ bodyV (l.take i), ()), (), ()))) (N := l.length) (fun i hi => ?_) ?_
    · have hv := h _ (List.getElem_mem hi)
      obtain ⟨g1, g2⟩ := ver_nums hv
      have c1 := catN_len _ g1
      have c2 := catN_len _ g2
      simp only [List.length_cons, List.length_nil] at c1 c2
      have hbl := bodyV_len h i
      have n1 := Numbers_g (sp := sp) (b := C ++ bodyV (l.take i)) g1 (by simp) (by rw [List.length_append]; omega)
      have f1 := Flags_1A l[i].commit sp (b := C ++ bodyV (l.take i) ++ catN [l[i].name.client, l[i].name.num, l[i].at_]) (by simp only [List.length_append]; omega)
      have n2 := Numbers_h (sp := sp) (b := C ++ bodyV (l.take i) ++ catN [l[i].name.client, l[i].name.num, l[i].at_] ++ flagF l[i].commit) g2 (by simp) (by simp only [List.length_append, flagF, List.length_singleton]; omega)
      have w := wreads_g hv (l := l) (L := (l.length : Int)) (i := (i : Int)) (sp := sp) (b := C ++ bodyV (l.take i) ++ catN [l[i].name.client, l[i].name.num, l[i].at_] ++ flagF l[i].commit ++ catN [(l[i].reads.length : Int)]) (by simp only [List.length_append, flagF, List.length_singleton]; omega)
      unfold ruling_Write_l1
      refine condT (dT (by (try dsimp only); omega)) (bindS (getI_lt hi) (bindS n1 (bindS f1 (bindS n2 (bindS w ?_)))))
      dsimp only
      rw [w64 (by omega), List.take_succ_eq_append_getElem hi, bodyV_snoc]
      unfold verB
      simp only [List.append_assoc]
      rfl
    · unfold ruling_Write_l1
      refine condF (dF (by (try dsimp only); omega)) ?_
      dsimp only
      rw [List.take_length]
  unfold ruling_Write
  refine bindS (v := (true, ((l, (), ()), m, (), (), ()))) rfl (condF rfl (bindS n1 (bindS key ?_)))
  rw [← List.append_assoc, hC]
/-- A verdict, read. -/
def readO (o : OB) : DRead × OB := (⟨(rowO 20 o).1, (flagO (rowO 20 o).2).1, (rowO 20 (flagO (rowO 20 o).2).2).1⟩, (rowO 20 (flagO (rowO 20 o).2).2).2)
def readsN : Nat → List DRead → OB → List DRead × OB
  | 0, out, o => (out, o)
  | n + 1, out, o => readsN n (out ++ [(readO o).1]) (readO o).2
def verO (o : OB) : DVerdict × OB :=
  let a := numO 1073741824 o
  let b := numO 1073741824 a.2
  let c := numO 1073741824 b.2
  let f := flagO c.2
  let k := numO 6 f.2
  let r := readsN k.1.toNat [] k.2
  (⟨⟨a.1, b.1⟩, f.1, c.1, r.1⟩, r.2)
theorem one_p (o : OB) : ruling_one (rdR o) = some ((verO o).1, (rdR (verO o).2, ())) := by
  unfold ruling_one verO
  dsimp only
  refine bindS (Num2_p 1073741824 o) ?_
  generalize numO 1073741824 o = a
  refine bindS (Num2_p 1073741824 a.2) ?_
  generalize numO 1073741824 a.2 = b
  refine bindS (Num2_p 1073741824 b.2) ?_
  generalize numO 1073741824 b.2 = c
  refine bindS (Flag_p c.2) ?_
  generalize flagO c.2 = f
  refine bindS (Num2_p 6 f.2) ?_
  have hk := numO_in 6 f.2
  generalize numO 6 f.2 = k at hk
  obtain ⟨N, hN⟩ : ∃ N : Nat, k.1 = (N : Int) := ⟨k.1.toNat, by omega⟩
  have key : ∀ (j i : Nat) (out : List DRead) (o : OB), i + j = N → out.length = i → loopM ruling_one_l1 (((), (), (), (N : Int), (i : Int), ()), (rdR o, (0, 0, false, 0, [], ()), (a.1, b.1, f.1, c.1, out, ()), (), (), ())) = some (((), (), ()), (rdR (readsN j out o).2, (0, 0, false, 0, [], ()), (a.1, b.1, f.1, c.1, (readsN j out o).1, ()), (), (), (), (), ())) := by
    intro j
    induction j with
    | zero =>
      intro i out o hi ho
      refine loopM_end ?_
      unfold ruling_one_l1
      exact condF (dF (by (try dsimp only); omega)) rfl
    | succ j ih =>
      intro i out o hi ho
      refine (loopM_next ?_).trans (ih (i + 1) (out ++ [(readO o).1]) (readO o).2 (by omega) (by simp [ho]))
      unfold ruling_one_l1
      refine condT (dT (by (try dsimp only); omega)) (bindS (Text_p 20 (by omega) o) (bindS (Flag_p _) (bindS (Text_p 20 (by omega) _) (iteT (by (try dsimp only); simp only [List.length_singleton]; omega) ?_))))
      dsimp only
      rw [w64 (by omega)]
      rfl
  dsimp only
  rw [hN]
  rw [Int.toNat_natCast]
  exact bindS (key N 0 [] k.2 (by omega) rfl) rfl
theorem read_r {v : DVerdict} (h : vrightB v = true) {x : DRead} (hx : x ∈ v.reads) (r : List UInt8) : readO (some (rdB x ++ r)) = (x, some r) := by
  obtain ⟨g1, g2, _⟩ := read_right h hx
  have e : rdB x ++ r = rowF x.key ++ (flagF x.is ++ (rowF x.value ++ r)) := by simp [rdB]
  unfold readO
  rw [e, row_r _ g1]
  dsimp only
  rw [flag_r]
  dsimp only
  rw [row_r _ g2]
theorem reads_r {v : DVerdict} (h : vrightB v = true) : ∀ (l out : List DRead) (r : List UInt8), (∀ x ∈ l, x ∈ v.reads) → readsN l.length out (some (rdsB l ++ r)) = (out ++ l, some r)
  | [], out, r, _ => by simp [readsN, rdsB]
  | x :: l, out, r, hl => by
    have e : rdsB (x :: l) ++ r = rdB x ++ (rdsB l ++ r) := by simp [rdsB]
    rw [e]
    show readsN l.length (out ++ [(readO (some (rdB x ++ (rdsB l ++ r)))).1]) (readO (some (rdB x ++ (rdsB l ++ r)))).2 = _
    rw [read_r h (hl x (by simp))]
    dsimp only
    rw [reads_r h l _ r fun y hy => hl y (by simp [hy])]
    simp
theorem ver_r {v : DVerdict} (h : vrightB v = true) (r : List UInt8) : verO (some (verB v ++ r)) = (v, some r) := by
  obtain ⟨h1, h2, h3, h4, _⟩ := vrightB_iff.1 h
  have e : verB v ++ r = numF v.name.client.toNat ++ (numF v.name.num.toNat ++ (numF v.at_.toNat ++ (flagF v.commit ++ (numF v.reads.length ++ (rdsB v.reads ++ r))))) := by simp [verB, catN]
  have hk := num_r (most := 6) (x := (v.reads.length : Int)) (rdsB v.reads ++ r) (by omega) (by omega) (by omega)
  rw [Int.toNat_natCast] at hk
  unfold verO
  dsimp only
  rw [e, num_r (most := 1073741824) _ (by omega) (by omega) (by omega)]
  dsimp only
  rw [num_r (most := 1073741824) _ (by omega) (by omega) (by omega)]
  dsimp only
  rw [num_r (most := 1073741824) _ (by omega) (by omega) (by omega)]
  dsimp only
  rw [flag_r]
  dsimp only
  rw [hk]
  dsimp only
  rw [Int.toNat_natCast, reads_r h v.reads [] r (fun y hy => hy), List.nil_append]
/-- A book that was written is read. -/
theorem body_r {l : List DVerdict} {m : Nm} (h : Bks l m) : ∀ (N : Nat) (r : List UInt8), l.length ≤ N → N ≤ 1000 → loopM ruling_Read_l1 (((), (), (), (N : Int), 0, ()), (((), ()), ([], (), ()), rdR (some (bodyV l ++ r)), [], (), ())) = loopM ruling_Read_l1 (((), (), (), (N : Int), (l.length : Int), ()), (((), ()), (l, (), ()), rdR (some r), m, (), ())) := by
  induction h with
  | nil => intro N r hN hN2; rfl
  | @snoc l m v hB h1 hx h2 h3 h4 ih =>
    intro N r hN hN2
    rw [List.length_append, List.length_singleton] at hN
    have e : bodyV (l ++ [v]) ++ r = bodyV l ++ (verB v ++ r) := by rw [bodyV_snoc, List.append_assoc]
    rw [e, ih N (verB v ++ r) (by omega) hN2]
    have ho := one_p (some (verB v ++ r))
    rw [ver_r h1 r] at ho
    have hOf : ruling_Of v.name (l, (), ()) m = some ((noV, false, ()), ((l, (), ()), m, (), (), ())) := by
      rcases bOf_p hB.ok v.name with ⟨_, q⟩ | ⟨k, hk, q1, _⟩
      · exact q
      · have := hB.ok.at_ k hk
        rw [q1, h2] at this
        cases this
    obtain ⟨_, _, _, q, _⟩ := vrightB_iff.1 h1
    have hD := Decide_v hB.ok v (by omega) hx (by omega)
    have hd : decF l m v = ((v, 0), l ++ [v], mput (.two .i64 .i64) m (nk v.name) (l.length : Int)) := by
      unfold decF
      rw [if_pos h1, h2]
      dsimp only
      rw [if_neg (by omega)]
    rw [hd] at hD
    refine loopM_next ?_
    unfold ruling_Read_l1
    refine condT (dT (by (try dsimp only); omega)) (bindS ho (bindS hOf (condF rfl (bindS (bfailed_p (some r)) (condF rfl (bindS hD (condF rfl ?_)))))))
    dsimp only
    rw [w64 (by omega), List.length_append, List.length_singleton]
    rfl
theorem bread_p {l : List DVerdict} {m : Nm} (h : Bks l m) (hl : l.length ≤ 1000) (r : List UInt8) : ruling_Read (rdR (some (catN [(l.length : Int)] ++ bodyV l ++ r))) = some (((), true, ()), (rdR (some r), (l, (), ()), m, (), ())) := by
  have hk := num_r (most := 1073741824) (x := (l.length : Int)) (bodyV l ++ r) (by omega) (by omega) (by omega)
  rw [Int.toNat_natCast] at hk
  have e : catN [(l.length : Int)] ++ bodyV l ++ r = numF l.length ++ (bodyV l ++ r) := by simp [catN]
  have hN := Num2_p 1073741824 (some (numF l.length ++ (bodyV l ++ r)))
  rw [hk] at hN
  have hb := body_r h l.length r (Nat.le_refl _) hl
  have hend : loopM ruling_Read_l1 (((), (), (), (l.length : Int), (l.length : Int), ()), (((), ()), (l, (), ()), rdR (some r), m, (), ())) = some (.inr (((), (), ()), (((), ()), (l, (), ()), rdR (some r), m, (), (), ()))) := by
    refine loopM_end ?_
    unfold ruling_Read_l1
    exact condF (dF (by (try dsimp only); omega)) rfl
  rw [e]
  unfold ruling_Read
  refine bindS (v := ((), (([], (), ()), [], (), ()))) rfl (bindS hN (bindS (hb.trans hend) ?_))
  exact bindS (bfailed_p (some r)) (condF rfl rfl)
end Go.Proofs.YtaihdjknneiciaaGreat
