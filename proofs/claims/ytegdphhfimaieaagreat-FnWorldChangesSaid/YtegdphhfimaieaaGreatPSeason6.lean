/- Plain lemmas: what the functions compute is what the reference says, in plain Lean. No condition. -/
import Derived.Test.YtegdphhfimaieaaGreatPSeasonA
set_option maxRecDepth 4000
set_option maxHeartbeats 1000000
set_option linter.unusedVariables false
set_option linter.unusedSimpArgs false
set_option linter.unusedSectionVars false

namespace Go.Proofs.YtegdphhfimaieaaGreat
open Go.AM

theorem sumW_sum (l:List Int):∀ (v:Int),(∀ y ∈ l,0 ≤ y∧y ≤ 100000)→0 ≤ v→v+100000 * (l.length:Int) ≤ 1000000000000→l.foldl (fun v y=>w64 (v+y)) v=v+l.sum:=by
 induction l with
 | nil=>intro v _ _ _;simp
 | cons y l ih =>
  intro v h1 h2 h3
  have hy:=h1 y (by simp)
  simp only [List.length_cons,Int.natCast_add] at h3
  rw [List.foldl_cons,w64_in (by omega),ih (v+y) (fun x hx=>h1 x (by simp [hx])) (by omega) (by omega),List.sum_cons];omega
theorem pts_desc {x:Line} (h:GoodE (lineEs x)) (hN:lineN x):x.points.Pairwise (· ≥ ·)∧(∀ y ∈ x.points,0 ≤ y∧y ≤ 100000):=by
 have hmap:(lineEs x).map Entry.points=x.points:=by
  unfold lineEs
  rw [List.map_zipWith]
  have:∀ (a b:List Int),b.length=a.length→List.zipWith (fun (_ p:Int)=>p) a b=b:=by
   intro a
   induction a with
   | nil=>intro b h;rw [List.eq_nil_of_length_eq_zero h];rfl
   | cons y a ih=>intro b h;cases b with | nil=>simp at h | cons z b=>simp only [List.zipWith_cons_cons];rw [ih b (by simpa using h)]
  exact this _ _ hN.1
 constructor
 ·rw [← hmap,List.pairwise_map]
  have hsk:∀ e ∈ lineEs x,e.skater=x.skater:=fun e he=>lineEs_sk he
  refine List.Pairwise.imp_of_mem (fun {a b} ha hb h=>?_) h.2.1
  have e1:=hsk a ha;have e2:=hsk b hb
  unfold ltE at h;omega
 ·intro y hy
  rw [← hmap] at hy
  obtain ⟨e,he,rfl⟩:=List.mem_map.1 hy
  exact (h.1 e he).2.2

end Go.Proofs.YtegdphhfimaieaaGreat
