/- FerryTells: every input. -/
import Derived.Test.YtlaehnldaejipaaFkg
