/- How arguments that are slices of slices of labels, and of queries, read. -/
import Derived.Test.YtpdclppieicaeaaOpenS
import Derived.Test.YtpdclppieicaeaaOpenQ
